/-
  Lists of curves: the laws' own conversions.
-/
import Derived.Test.YtpcbeapajlchgaaCurveL
set_option linter.unusedVariables false
set_option linter.unusedSimpArgs false
namespace Go.Proofs.Ytpcbeapajlchgaa
open Go.RowKit

theorem Try.infoRow : (Try.prog.info? 25).map (fun i => (i.zero, i.size, i.bytes)) = some (some (.slice none 0 0), 1, 24) := by kernel_rfl

theorem l_szPts (a : Option Addr) (n c : Nat) (left : Int) (w : World) (hl : 0 ≤ left ∧ left ≤ 1048576) (hn : n ≤ 9223372036854775807) : Calls Try.prog 15 #[.slice a n c, .int .i64 left] w fun e w' => e = .returned (.int .i64 (if left < (n : Int) then -1 else left - (n : Int))) ∧ w = w' := by
  by_cases h : left < (n : Int)
  · rw [if_pos h]
    go_enter Try.func15, Try.ntmps15
    go_wp2
    go_ret
    exact ⟨rfl, rfl⟩
  · rw [if_neg h]
    go_enter Try.func15, Try.ntmps15
    go_wp2
    go_ret
    exact ⟨rfl, rfl⟩

/-- The lengths of a list of curves are not too great. -/
abbrev lensOk (n : Nat) (L : List (List Pt)) : Prop := n ≤ 1048576 ∧ ∀ k, k < n → (lk L k).length ≤ 1048576

set_option maxHeartbeats 1000000 in
theorem l_szCurvePointSS (a : Option Addr) (n c : Nat) (L : List (List Pt)) (w : World) (h : LAt w a n L) (hn : n ≤ 9223372036854775807) (hn2 : ∀ k, k < n → (lk L k).length ≤ 9223372036854775807) :
    Calls Try.prog 34 #[.slice a n c, .int .i64 1048576] w fun e w' => ∃ v : Int, e = .returned (.int .i64 v) ∧ (v < 0 ∨ (0 ≤ v ∧ lensOk n L)) ∧ w = w' := by
  have H := hid h
  have HN := hid hn2
  clear h hn2
  by_cases h1 : 1048576 < n
  · go_enter Try.func34, Try.ntmps34
    go_wp2
    go_ret
    exact ⟨-1, rfl, .inl (by omega), rfl⟩
  · go_enter Try.func34, Try.ntmps34
    go_wp2
    go_loopg [1, 5] n (fun g s i wr => ∃ (k : Nat) (v : Int), k ≤ n ∧ g = n - k ∧ s = .int .i64 v ∧ i = .int .i64 k ∧ (0 ≤ v ∧ v ≤ 1048576) ∧ w = wr ∧ Hid (∀ j, j < k → (lk L j).length ≤ 1048576))
    case atStart => exact ⟨0, _, Nat.zero_le _, rfl, rfl, rfl, by omega, rfl, hid (fun j hj => by omega)⟩
    case round =>
      obtain ⟨k, v, hk, rfl, rfl, rfl, hv, rfl, hh⟩ := hrel
      by_cases hlt : k < n
      · obtain ⟨b, off, pa, pn, pc, rfl, hb, x0, hp⟩ := LAt.get H.out k hlt
        have hpn : pn ≤ 9223372036854775807 := by rw [← hp.1]; exact HN.out k hlt
        have HP := hid hp.1
        clear hp
        go_wp2_with fail
        refine (l_szPts _ _ _ _ _ hv hpn).mono ?_
        rintro e _ ⟨rfl, rfl⟩
        by_cases hs : v < (pn : Int)
        · rw [if_pos hs]
          go_wp2
          go_ret
          exact ⟨-1, rfl, .inl (by omega), rfl⟩
        · rw [if_neg hs]
          have hs2 : ¬ v - (pn : Int) < 0 := by omega
          go_wp2
          go_roundg (n - (k + 1))
          case rel =>
            refine ⟨k + 1, _, by omega, rfl, rfl, by go_num, by omega, rfl, hid (fun j hj => ?_)⟩
            by_cases e : j = k
            · subst e; rw [HP.out]; omega
            · exact hh.out j (by omega)
          case measure => omega
      · obtain rfl : n = k := by omega
        go_wp2
        go_ret
        exact ⟨v, rfl, .inr ⟨hv.1, by omega, hh.out⟩, rfl⟩

set_option maxHeartbeats 2000000 in
theorem l_toCurvePointSS (a : Option Addr) (n c : Nat) (L : List (List Pt)) (w : World) (h : LAt w a n L) (hn : lensOk n L) :
    Calls Try.prog 36 #[.slice a n c] w fun e w' => ∃ a' c', e = .returned (.slice a' n c') ∧ LAt w' a' n L ∧ Below w.heap.size w w' := by
  obtain ⟨i0, hi, hz0, hz1, hz2⟩ := info_parts Try.infoRow
  have H := hid h
  have HLN := hid h.1
  have HN := hid hn
  have hn1 := hn.1
  clear h hn
  have HI := hid hi
  have HZ := hid hz0
  have HZ1 := hid hz1
  have HZ2 := hid hz2
  clear hi hz0 hz1 hz2
  go_enter Try.func36, Try.ntmps36
  go_wp2_with (at_make; refine wpList_make_full _ rfl _ _ 43 rfl w.heap.size 25 i0 (.slice none 0 0) 1 Try.underlying43 HI.out HZ.out HZ1.out _ _ _ _ n rfl rfl rfl rfl ?b2 ?b3 ?b4 ?_)
  case b2 => rw [HZ2.out]; omega
  case b3 => unfold maxLen; omega
  case b4 => exact Nat.le_refl _
  intro w1 hown hgrow
  have ho : OwnS rf 1 25 w1 w.heap.size _ (List.replicate n ((none, 0, 0) : CRow)) := OwnS.of_row rf_len (by decide) (n := n) (by have e := madeFlat rf 1 rf_len (by decide) ((none, 0, 0) : CRow) #[.slice none 0 0] rfl n; rw [Nat.mul_one] at e; rw [← e]; exact hown)
  have HO := hid ho
  have HB := hid (below_of_grown hgrow (Nat.le_refl _) (fun k hk => by simp at hk))
  clear hown ho hgrow
  go_wp2
  go_loopg [4] n (fun g i wr => ∃ (k : Nat) (R : List CRow), k ≤ n ∧ g = n - k ∧ i = .int .i64 k ∧ Hid (OwnS rf 1 25 wr w.heap.size (.slice (some ⟨w.heap.size, 0, none⟩) n n) R ∧ (∀ j, j < k → PAt wr (row R j).1 (row R j).2.1 (lk L j) ∧ ∀ b o, (row R j).1 = some ⟨b, o, none⟩ → w.heap.size < b) ∧ Below w.heap.size w wr))
  case atStart => exact ⟨0, List.replicate n (none, 0, 0), Nat.zero_le _, rfl, rfl, hid ⟨HO.out, fun j hj => by omega, HB.out⟩⟩
  case round =>
    obtain ⟨k, R, hk, rfl, rfl, hh⟩ := hrel
    clear HO HB
    by_cases hlt : k < n
    · obtain ⟨b, off, pa, pn, pc, rfl, hbw, x0, hp⟩ := LAt.get (H.out.below hh.out.2.2) k hlt
      have hpn : pn ≤ 1048576 := by rw [← hp.1]; exact HN.out.2 k hlt
      have hfr := OwnS.frozen (j := k) hh.out.1
      obtain ⟨v0, y0⟩ : ∃ v, wr.cell? ⟨w.heap.size, k, none⟩ = some v := by
        obtain ⟨b', o', e', -, y⟩ := (OwnS.at rf_len hh.out.1).2 k hlt
        simp only [Option.some.injEq, Addr.mk.injEq, and_true] at e'
        obtain ⟨rfl, rfl⟩ := e'
        have := y 0 (by decide)
        simp only [Nat.mul_one, Nat.add_zero, Nat.zero_add] at this
        exact ⟨_, this⟩
      have hw1 : w.heap.size < wr.heap.size := (OwnS.lt hh.out.1 _ rfl).2
      go_wp2_with fail
      refine (l_toCurvePointS _ _ _ (lk L k) _ hp hpn).mono ?_
      rintro e w2 ⟨a2, c2, rfl, ho2, hb⟩
      obtain ⟨hc, hf⟩ := bcell hb
      have O2 := hid ho2
      have B2 := hid hb
      clear ho2 hp
      go_wp2
      go_roundg (n - (k + 1))
      case rel =>
        have hlR := OwnS.len hh.out.1
        obtain ⟨o1, g1⟩ := OwnS.set rf_len (by decide) (hh.out.1.below B2.out) hlt (j := 0) (by decide) (.slice a2 pn c2) ((a2, pn, c2) : CRow) rfl
        simp only [Nat.mul_one, Nat.add_zero] at o1 g1
        refine ⟨k + 1, R.set k (a2, pn, c2), by omega, rfl, by go_num, hid ⟨o1, fun j hj => ?_, (bstep hh.out.2.2 B2.out).grown g1 (by have := B2.out.size; omega) (fun q hq => by simp at hq; omega)⟩⟩
        by_cases e : j = k
        · subst e
          have er : row (R.set j (a2, pn, c2)) j = (a2, pn, c2) := by unfold row; rw [List.getElem?_set_self (by omega)]; rfl
          rw [er]
          have hge : ∀ b o, a2 = some ⟨b, o, none⟩ → w.heap.size < b := fun b o e => by
            rcases (show w2.ownsRow _ _ _ _ _ _ from O2.out).2 with ⟨h1, h0⟩ | ⟨g, cap, cur, h1, h2, -⟩
            · simp only [Value.slice.injEq] at h1
              rw [h1.1] at e; cases e
            · simp only [Value.slice.injEq] at h1
              rw [h1.1] at e
              simp only [Option.some.injEq, Addr.mk.injEq] at e
              obtain ⟨rfl, -⟩ := e
              omega
          exact ⟨SAt.stay (OwnS.at pf_len O2.out) g1 (fun b o e e2 => by have := hge b o e; have := Option.some.inj e2; omega), hge⟩
        · have er : row (R.set k (a2, pn, c2)) j = row R j := by unfold row; rw [List.getElem?_set_ne (by omega)]
          rw [er]
          obtain ⟨q1, q2⟩ := hh.out.2.1 j (by omega)
          exact ⟨SAt.stay (q1.below B2.out) g1 (fun b o e e2 => by have := q2 b o e; have := Option.some.inj e2; omega), q2⟩
      case measure => omega
    · obtain rfl : n = k := by omega
      go_wp2
      go_ret
      exact ⟨_, _, rfl, ⟨HLN.out, R, OwnS.at rf_len hh.out.1, fun j hj => (hh.out.2.1 j hj).1⟩, hh.out.2.2⟩

set_option maxHeartbeats 2000000 in
theorem l_eqCurvePointSS (a b : Option Addr) (n c d : Nat) (L : List (List Pt)) (w : World) (h : LAt w a n L) (h' : LAt w b n L) (hn : lensOk n L) :
    Calls Try.prog 38 #[.slice a n c, .slice b n d] w fun e w' => e = .returned (.bool true) ∧ Below w.heap.size w w' := by
  have H := hid h
  have H' := hid h'
  have HN := hid hn
  have hn1 := hn.1
  clear h h' hn
  go_enter Try.func38, Try.ntmps38
  go_wp2
  go_loopg [5] n (fun g i wr => ∃ k : Nat, k ≤ n ∧ g = n - k ∧ i = .int .i64 k ∧ Hid (Below w.heap.size w wr))
  case atStart => exact ⟨0, Nat.zero_le _, rfl, rfl, Below.refl _ _⟩
  case round =>
    obtain ⟨k, hk, rfl, rfl, hh⟩ := hrel
    by_cases hlt : k < n
    · obtain ⟨b1, off1, pa, pn, pc, rfl, hb1, x0, hp⟩ := LAt.get (H.out.below hh.out) k hlt
      obtain ⟨b2, off2, qa, qn, qc, rfl, hb2, y0, hq⟩ := LAt.get (H'.out.below hh.out) k hlt
      have hpn : pn ≤ 1048576 := by rw [← hp.1]; exact HN.out.2 k hlt
      have e : qn = pn := by rw [← hp.1, ← hq.1]
      subst e
      have HP := hid hp
      have HQ := hid hq
      clear hp hq
      go_upto_region 6 with fail
      have X := hid (show Below w.heap.size w wr.drew ∧ wr.drew.cell? ⟨b1, off1 + k, none⟩ = some (.slice pa qn pc) ∧ wr.drew.cell? ⟨b2, off2 + k, none⟩ = some (.slice qa qn qc) ∧ PAt wr.drew pa qn (lk L k) ∧ PAt wr.drew qa qn (lk L k) from ⟨hh.out.drew, x0, y0, HP.out, HQ.out⟩)
      clear x0 y0
      refine wp_region_calm (C := (fun w' => Below w.heap.size w w' ∧ w'.cell? ⟨b1, off1 + k, none⟩ = some (.slice pa qn pc) ∧ w'.cell? ⟨b2, off2 + k, none⟩ = some (.slice qa qn qc) ∧ PAt w' pa qn (lk L k) ∧ PAt w' qa qn (lk L k))) (by kernel_rfl) (by kernel_rfl) (X.out) ?_
      repeat
        first
          | go_big_quiet_skip
          | (go_big_quiet_want
             first
               | (unfold Oper.quiet
                  apply Exists.intro
                  refine ⟨fun wq hq => ?_, ?_⟩
                  · (try dsimp only at hq
                     simp [go_sem, Oper.quietAt, Oper.quietUpon, BigFrame.eval_const, BigFrame.eval_global, BigFrame.eval_func, ↓IntWalk.iteOmega, *]
                     first | done | rfl | (refine calm_call hq (fun wy w5 hc hb => ⟨bstep hc.1 hb, (hb.cell (World.block_lt_of_cell? wy _ hc.2.1)).trans hc.2.1, (hb.cell (World.block_lt_of_cell? wy _ hc.2.2.1)).trans hc.2.2.1, hc.2.2.2.1.below hb, hc.2.2.2.2.below hb⟩) (l_eqCurvePointS _ _ _ _ _ (lk L k) _ hq.2.2.2.1 hq.2.2.2.2 hpn) rfl))
                  simp only [Act.put, List.setIfInBounds_toArray, List.set_cons_succ, List.set_cons_zero]
                  go_big_quiet_on))
      refine wpQuiet_nil ?_
      intro wc hcalm
      try dsimp only at hcalm
      have HC := hid hcalm.1
      clear hcalm
      go_wp2
      go_roundg (n - (k + 1))
      case rel => exact ⟨k + 1, by omega, rfl, by go_num, hid HC.out⟩
      case measure => omega
    · obtain rfl : n = k := by omega
      go_wp2
      go_ret
      exact ⟨rfl, hh.out⟩

end Go.Proofs.Ytpcbeapajlchgaa
