/-
  The reference's steps: the row of distances.
-/
import Derived.Test.YthhogblnndmenaaStepA
import Derived.Test.YthhogblnndmenaaTreeW
set_option linter.unusedVariables false
set_option linter.unusedSimpArgs false
namespace Go.Proofs.Ythhogblnndmenaa
open Go.RowKit

/-- What holds of the row that the reference fills. -/
abbrev StepIn (wA : World) (M : Nat) (g c' : Nat) (L : List Int) (wr : World) : Prop := OwnI wr wA.heap.size (.slice (some ⟨g, 0, none⟩) (M + 1) c') L ∧ Below wA.heap.size wA wr
theorem StepIn.set {wA : World} {M g c' : Nat} {L : List Int} {wr : World} (h : StepIn wA M g c' L wr) (k : Nat) (x : Int) : StepIn wA M g c' (L.set k x) (wr.setCell ⟨g, k, none⟩ (.int .i64 x)) := by
  obtain ⟨h1, h2⟩ := h.1.set (k := k) x
  exact ⟨h1, h.2.grown h2 h.2.size (fun q hq => (h.1.lt q (by cases hq; rfl)).1)⟩
theorem StepIn.below {wA : World} {M g c' : Nat} {L : List Int} {wr wx : World} (h : StepIn wA M g c' L wr) (hb : Below wr.heap.size wr wx) : StepIn wA M g c' L wx := ⟨h.1.below hb, bstep h.2 hb⟩

set_option maxRecDepth 100000 in
set_option maxHeartbeats 8000000 in
theorem s_l2Steps (M t : Nat) (a : Option Addr) (n c : Nat) (l : List Pip) (w : World) (h : QAt w a n l) (hg : goodNet M l = true) (ht : 1 ≤ t ∧ t ≤ M) :
    Calls Try.prog 124 #[.agg #[.int .i64 M, .slice a n c], .int .i64 t] w fun e w' => ∃ g c', e = .returned (.slice (some ⟨g, 0, none⟩) (M + 1) c') ∧ OwnI w' w.heap.size (.slice (some ⟨g, 0, none⟩) (M + 1) c') (distL M l 0 t) ∧ Below w.heap.size w w' := by
  have hM : M ≤ 8 := by have := (goodNet_get hg).1; omega
  have hn : n ≤ 10 := by have := (goodNet_get hg).2.1; have := h.1; omega
  have HLN := hid h.1
  have H := hid h
  have HG := hid hg
  clear h hg
  have t0 : (0 : Int) ≤ (t : Int) := by omega
  have t1 : (t : Int) < ((M + 1 : Nat) : Int) := by omega
  have t2 : t < M + 1 := by omega
  go_enter Try.func124, Try.ntmps124
  go_upto_region 1 with fail
  have BA := hid (by go_grown : Below w.heap.size w (w.alloc (.cells #[.int .i64 M, .slice a n c] 31)))
  have N0 := hid (cell_of_row _ _ 0 _ _ (0, 0) (heap_alloc_new w (.cells #[.int .i64 M, .slice a n c] 31)))
  have N1 := hid (cell_of_row _ _ 1 _ _ (0, 0) (heap_alloc_new w (.cells #[.int .i64 M, .slice a n c] 31)))
  have hzA : w.heap.size < (w.alloc (.cells #[.int .i64 M, .slice a n c] 31)).heap.size := by simp
  have n0 := N0.out
  have n1 := N1.out
  simp only [List.getElem?_toArray, List.getElem?_cons_zero, List.getElem?_cons_succ] at n0 n1
  generalize w.alloc (.cells #[.int .i64 M, .slice a n c] 31) = wA at *
  go_wp2
  go_loopg [5, 6] (M + 1) (fun g o i wr => ∃ (k : Nat) (a' : Option Addr) (c' : Nat), k ≤ M + 1 ∧ g = M + 1 - k ∧ i = .int .i64 k ∧ o = .slice a' k c' ∧ Hid (OwnI wr wA.heap.size (.slice a' k c') (List.replicate k (-1)) ∧ Below wA.heap.size wA wr))
  case atStart => exact ⟨0, _, 0, Nat.zero_le _, rfl, rfl, rfl, hid ⟨by simpa using OwnI.lit0 wA, by go_grown⟩⟩
  case round =>
    obtain ⟨k, a', c', hk, rfl, rfl, rfl, hh⟩ := hrel
    obtain ⟨W0, hW0⟩ : ∃ W, W = wr := ⟨_, rfl⟩
    subst hW0
    have n0 := (hh.out.2.cell (p := ⟨w.heap.size, 0, none⟩) hzA).trans N0.out
    have n1 := (hh.out.2.cell (p := ⟨w.heap.size, 1, none⟩) hzA).trans N1.out
    have hz0 : w.heap.size < W0.heap.size := World.block_lt_of_cell? W0 _ n0
    by_cases hlt : k < M + 1
    · have hkm : (k : Int) ≤ (M : Int) := by omega
      go_wp2_with (at_builtin; refine wp_append_ints _ rfl _ _ rfl wA.heap.size _ (List.replicate k (-1)) rfl (hh.out.1.alloc _) _ 1 1 [(-1 : Int)] rfl (IntsAt.single _ _) (k + 1) (by simp) (by omega) (by have := hh.out.2.size; simp; omega) ?_)
      intro a2 c2 w2 hown hgrow hblk
      have S2 := hid (show OwnI w2 wA.heap.size (.slice a2 (k + 1) c2) (List.replicate (k + 1) (-1)) ∧ Below wA.heap.size wA w2 from
        ⟨by rw [List.replicate_succ']; exact hown, (bstep hh.out.2 (by go_grown)).grown hgrow (by have := hh.out.2.size; simp; omega) (fun q hq => (hh.out.1.lt q hq).1)⟩)
      clear hown hgrow hblk n0 n1
      go_wp2
      go_roundg (M + 1 - (k + 1))
      case rel => exact ⟨k + 1, _, _, by omega, rfl, by go_num, rfl, S2⟩
      case measure => omega
    · obtain rfl : k = M + 1 := by omega
      obtain ⟨g, rfl, hg1, hg2⟩ := own_some hh.out.1 (by omega)
      have hcell := hh.out.1.cell (k := t) t2
      have hfr := hh.out.1.frozen (k := t)
      have ST := hid (show StepIn wA M g c' ((List.replicate (M + 1) (-1)).set t 0) _ from StepIn.set (show StepIn wA M g c' _ W0 from hh.out) t 0)
      have RW := hid (Row.start (l := l) (L := List.replicate (M + 1) (-1)) HG.out ht (by simp) (fun v hv => by simp [show v < M + 1 by omega]))
      clear hh
      go_wp2
      go_loopg [7, 8, 9, 10] M (fun gm st x8 x9 x10 wr => ∃ (s : Nat) (L : List Int), s ≤ M ∧ gm = M - s ∧ st = .int .i64 s ∧ Hid (StepIn wA M g c' L wr) ∧ Hid (Row M l (far l 0 t) s 0 L))
      case atStart => exact ⟨0, _, Nat.zero_le _, rfl, rfl, ST, RW⟩
      case round =>
        obtain ⟨s, L, hs, rfl, rfl, hS, hR⟩ := hrel
        clear ST RW n0 n1 hcell hfr hz0
        obtain ⟨W1, hW1⟩ : ∃ W, W = wr := ⟨_, rfl⟩
        subst hW1
        have n0 := (hS.out.2.cell (p := ⟨w.heap.size, 0, none⟩) hzA).trans N0.out
        have n1 := (hS.out.2.cell (p := ⟨w.heap.size, 1, none⟩) hzA).trans N1.out
        by_cases hsm : s < M
        · go_wp2
          go_loopg [8, 9, 10] n (fun gm i x9 x10 wr => ∃ (k : Nat) (L : List Int), k ≤ n ∧ gm = n - k ∧ i = .int .i64 k ∧ Hid (StepIn wA M g c' L wr) ∧ Hid (Row M l (far l 0 t) s k L))
          case atStart => exact ⟨0, L, Nat.zero_le _, rfl, rfl, hS, hR⟩
          case round =>
            obtain ⟨k, L', hk, rfl, rfl, hS', hR'⟩ := hrel
            clear n0 n1
            have n1 := (hS'.out.2.cell (p := ⟨w.heap.size, 1, none⟩) hzA).trans N1.out
            have hz0 : w.heap.size < wr.heap.size := World.block_lt_of_cell? wr _ n1
            by_cases hlt2 : k < n
            · obtain ⟨b0, off0, rfl, hbw, x0, x1, x2, x3⟩ := QAt.get (H.out.below (bstep BA.out hS'.out.2)) k hlt2
              have hkl : k < l.length := by have := HLN.out; omega
              have HP := hid (goodNet_pipe HG.out hkl)
              have HE := hid (pipe_edge HG.out hkl)
              obtain ⟨p, hp⟩ : ∃ p : Nat, (pp l k).2.1 = p := ⟨(pp l k).2.1.toNat, by have := HP.out.2.1; omega⟩
              obtain ⟨q, hq⟩ : ∃ q : Nat, (pp l k).2.2.1 = q := ⟨(pp l k).2.2.1.toNat, by have := HP.out.2.2.1; omega⟩
              have hp1 : 1 ≤ p ∧ p ≤ M := by have := HP.out.2.1; omega
              have hq1 : 1 ≤ q ∧ q ≤ M := by have := HP.out.2.2.1; omega
              have hpq : ¬ p = q := by have := HP.out.2.2.2.1; omega
              have hqp : ¬ q = p := by omega
              rw [hp] at x1
              rw [hq] at x2
              rw [hp, hq] at HE
              have HPp := hid hp
              have HQq := hid hq
              clear hp hq hkl x0 x3
              go_upto_region 13 with fail
              go_quiet (fail)
              have HS2 := hid (StepIn.below hS'.out (bdraws nq : Below wr.heap.size wr (wr.drewN nq)))
              clear x1 x2 n1 hz0 hbw hS'
              generalize wr.drewN nq = wq at *
              have p0 : (0 : Int) ≤ (p : Int) := by omega
              have p1 : (p : Int) < ((M + 1 : Nat) : Int) := by omega
              have p2 : p < M + 1 := by omega
              have q0 : (0 : Int) ≤ (q : Int) := by omega
              have q1 : (q : Int) < ((M + 1 : Nat) : Int) := by omega
              have q2 : q < M + 1 := by omega
              obtain ⟨lp, hlp⟩ : ∃ lp, L'[p]?.getD 0 = lp := ⟨_, rfl⟩
              obtain ⟨lq, hlq⟩ : ∃ lq, L'[q]?.getD 0 = lq := ⟨_, rfl⟩
              have cp := HS2.out.1.cell (k := p) p2
              have cq := HS2.out.1.cell (k := q) q2
              have fp := HS2.out.1.frozen (k := p)
              have fq := HS2.out.1.frozen (k := q)
              rw [hlp] at cp
              rw [hlq] at cq
              have HLp := hid hlp
              have HLq := hid hlq
              clear hlp hlq
              have hgq : g < wq.heap.size := (HS2.out.1.lt _ rfl).2
              by_cases e1 : lp = s
              · by_cases e2 : lq < 0
                · have RY := hid (hR'.out.yes HG.out hp1 hq1 HE.out.1 (.inr ⟨HQq.out.symm, by
                    have := hR'.out.at' p hp1.1 hp1.2
                    rw [HLp.out, e1] at this
                    rw [HPp.out]
                    exact lev_eq_st.1 this.symm⟩) (fun v hv => by
                    rcases hv with ⟨b1, b2⟩ | ⟨b1, b2⟩
                    · rw [HQq.out] at b2
                      have h9 := hR'.out.at' q hq1.1 hq1.2
                      rw [lev_eq_st.2 b2, HLq.out] at h9
                      omega
                    · rw [b1, HQq.out]) (by rw [HLp.out]; exact e1) (by rw [HLq.out]; exact e2))
                  have e1a : lp ≤ s := by omega
                  have e1b : (s : Int) ≤ lp := by omega
                  clear e1
                  have SY := hid (HS2.out.set q ((s : Int) + 1))
                  go_wp2
                  go_roundg (n - (k + 1))
                  case rel => exact ⟨k + 1, _, by omega, rfl, by go_num, SY, RY⟩
                  case measure => omega
                · have RN := hid (hR'.out.no HPp.out HQq.out hp1 hq1 (fun _ => by rw [HLq.out]; exact e2) (fun _ => by rw [HLp.out]; omega))
                  have e1a : lp ≤ s := by omega
                  have e1b : (s : Int) ≤ lp := by omega
                  have e3 : ¬ lp < 0 := by omega
                  clear e1
                  by_cases e4 : lq = s
                  · have e4a : lq ≤ s := by omega
                    have e4b : (s : Int) ≤ lq := by omega
                    clear e4
                    go_wp2
                    go_roundg (n - (k + 1))
                    case rel => exact ⟨k + 1, L', by omega, rfl, by go_num, HS2, RN⟩
                    case measure => omega
                  · go_wp2
                    go_roundg (n - (k + 1))
                    case rel => exact ⟨k + 1, L', by omega, rfl, by go_num, HS2, RN⟩
                    case measure => omega
              · by_cases e4 : lq = s
                · by_cases e5 : lp < 0
                  · have RY := hid (hR'.out.yes HG.out hq1 hp1 HE.out.2 (.inl ⟨HPp.out.symm, by
                      have := hR'.out.at' q hq1.1 hq1.2
                      rw [HLq.out, e4] at this
                      rw [HQq.out]
                      exact lev_eq_st.1 this.symm⟩) (fun v hv => by
                      rcases hv with ⟨b1, b2⟩ | ⟨b1, b2⟩
                      · rw [b1, HPp.out]
                      · rw [HPp.out] at b2
                        have h9 := hR'.out.at' p hp1.1 hp1.2
                        rw [lev_eq_st.2 b2, HLp.out] at h9
                        omega) (by rw [HLq.out]; exact e4) (by rw [HLp.out]; exact e5))
                    have e4a : lq ≤ s := by omega
                    have e4b : (s : Int) ≤ lq := by omega
                    clear e4
                    have SY := hid (HS2.out.set p ((s : Int) + 1))
                    go_wp2
                    go_roundg (n - (k + 1))
                    case rel => exact ⟨k + 1, _, by omega, rfl, by go_num, SY, RY⟩
                    case measure => omega
                  · have RN := hid (hR'.out.no HPp.out HQq.out hp1 hq1 (fun e => by rw [HLp.out] at e; exact absurd e e1) (fun _ => by rw [HLp.out]; exact e5))
                    have e4a : lq ≤ s := by omega
                    have e4b : (s : Int) ≤ lq := by omega
                    clear e4
                    go_wp2
                    go_roundg (n - (k + 1))
                    case rel => exact ⟨k + 1, L', by omega, rfl, by go_num, HS2, RN⟩
                    case measure => omega
                · have RN := hid (hR'.out.no HPp.out HQq.out hp1 hq1 (fun e => by rw [HLp.out] at e; exact absurd e e1) (fun e => by rw [HLq.out] at e; exact absurd e e4))
                  go_wp2
                  go_roundg (n - (k + 1))
                  case rel => exact ⟨k + 1, L', by omega, rfl, by go_num, HS2, RN⟩
                  case measure => omega
            · obtain rfl : k = n := by omega
              have RX := hid (Row.next HG.out (HLN.out ▸ hR'.out))
              go_wp2
              go_roundg (M - (s + 1))
              case rel => exact ⟨s + 1, L', by omega, rfl, by go_num, hS', RX⟩
              case measure => omega
        · obtain rfl : s = M := by omega
          have E := hid (Row.done HG.out ⟨by omega, by omega⟩ hR.out)
          go_wp2
          go_ret
          refine ⟨_, _, rfl, ?_, bstep BA.out hS.out.2⟩
          rw [← E.out]
          exact hS.out.1.mono (by omega)

end Go.Proofs.Ythhogblnndmenaa
