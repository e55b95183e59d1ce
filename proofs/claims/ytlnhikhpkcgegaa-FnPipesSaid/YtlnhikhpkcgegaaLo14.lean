/-
  Texts of this claim, joined: Steps, Way, Along, HeadS.
-/
import Derived.Test.YtlnhikhpkcgegaaLo10
import Derived.Test.YtlnhikhpkcgegaaLo12
import Derived.Test.YtlnhikhpkcgegaaLo13
/-
  The reference's steps: the row of distances.
-/
set_option linter.unusedVariables false
set_option linter.unusedSimpArgs false
namespace Go.Proofs.Ytlnhikhpkcgegaa
open Go.RowKit

/-- What holds of the row that the reference fills. -/
abbrev StepIn (wA : World) (M : Nat) (g c' : Nat) (L : List Int) (wr : World) : Prop := OwnI wr wA.heap.size (.slice (some ⟨g, 0, none⟩) (M + 1) c') L ∧ Below wA.heap.size wA wr
theorem StepIn.set {wA : World} {M g c' : Nat} {L : List Int} {wr : World} (h : StepIn wA M g c' L wr) (k : Nat) (x : Int) : StepIn wA M g c' (L.set k x) (wr.setCell ⟨g, k, none⟩ (.int .i64 x)) := by
  obtain ⟨h1, h2⟩ := h.1.set (k := k) x
  exact ⟨h1, h.2.grown h2 h.2.size (fun q hq => (h.1.lt q (by cases hq; rfl)).1)⟩
theorem StepIn.below {wA : World} {M g c' : Nat} {L : List Int} {wr wx : World} (h : StepIn wA M g c' L wr) (hb : Below wr.heap.size wr wx) : StepIn wA M g c' L wx := ⟨h.1.below hb, bstep h.2 hb⟩

set_option maxRecDepth 100000 in
set_option maxHeartbeats 8000000 in
theorem s_l2Steps (M t : Nat) (a : Option Addr) (n c : Nat) (l : List Pip) (w : World) (h : QAt w a n l) (hg : goodNet M l = true) (ht : 1 ≤ t ∧ t ≤ M) :
    Calls Try.prog 165 #[.agg #[.int .i64 M, .slice a n c], .int .i64 t] w fun e w' => ∃ g c', e = .returned (.slice (some ⟨g, 0, none⟩) (M + 1) c') ∧ OwnI w' w.heap.size (.slice (some ⟨g, 0, none⟩) (M + 1) c') (distL M l 0 t) ∧ Below w.heap.size w w' := by
  have hM : M ≤ 8 := by have := (goodNet_get hg).1; omega
  have hn : n ≤ 10 := by have := (goodNet_get hg).2.1; have := h.1; omega
  have HLN := hid h.1
  have H := hid h
  have HG := hid hg
  clear h hg
  have t0 : (0 : Int) ≤ (t : Int) := by omega
  have t1 : (t : Int) < ((M + 1 : Nat) : Int) := by omega
  have t2 : t < M + 1 := by omega
  go_enter Try.func165, Try.ntmps165
  go_upto_region 1 with fail
  have BA := hid (by go_grown : Below w.heap.size w (w.alloc (.cells #[.int .i64 M, .slice a n c] 26)))
  have N0 := hid (cell_of_row _ _ 0 _ _ (0, 0) (heap_alloc_new w (.cells #[.int .i64 M, .slice a n c] 26)))
  have N1 := hid (cell_of_row _ _ 1 _ _ (0, 0) (heap_alloc_new w (.cells #[.int .i64 M, .slice a n c] 26)))
  have hzA : w.heap.size < (w.alloc (.cells #[.int .i64 M, .slice a n c] 26)).heap.size := by simp
  have n0 := N0.out
  have n1 := N1.out
  simp only [List.getElem?_toArray, List.getElem?_cons_zero, List.getElem?_cons_succ] at n0 n1
  generalize w.alloc (.cells #[.int .i64 M, .slice a n c] 26) = wA at *
  go_wp2
  go_loopg [5, 6] (M + 1) (fun g o i wr => ∃ (k : Nat) (a' : Option Addr) (c' : Nat), k ≤ M + 1 ∧ g = M + 1 - k ∧ i = .int .i64 k ∧ o = .slice a' k c' ∧ Hid (OwnI wr wA.heap.size (.slice a' k c') (List.replicate k (-1)) ∧ Below wA.heap.size wA wr))
  case atStart => exact ⟨0, _, 0, Nat.zero_le _, rfl, rfl, rfl, hid ⟨by simpa using OwnI.lit0 wA, by go_grown⟩⟩
  case round =>
    obtain ⟨k, a', c', hk, rfl, rfl, rfl, hh⟩ := hrel
    obtain ⟨W0, hW0⟩ : ∃ W, W = wr := ⟨_, rfl⟩
    subst hW0
    have n0 := (hh.out.2.cell (p := ⟨w.heap.size, 0, none⟩) hzA).trans N0.out
    have n1 := (hh.out.2.cell (p := ⟨w.heap.size, 1, none⟩) hzA).trans N1.out
    have hz0 : w.heap.size < W0.heap.size := World.block_lt_of_cell? W0 _ n0
    by_cases hlt : k < M + 1
    · have hkm : (k : Int) ≤ (M : Int) := by omega
      go_wp2_with (at_builtin; refine wp_append_ints _ rfl _ _ rfl wA.heap.size _ (List.replicate k (-1)) rfl (hh.out.1.alloc _) _ 1 1 [(-1 : Int)] rfl (IntsAt.single _ _) (k + 1) (by simp) (by omega) (by have := hh.out.2.size; simp; omega) ?_)
      intro a2 c2 w2 hown hgrow hblk
      have S2 := hid (show OwnI w2 wA.heap.size (.slice a2 (k + 1) c2) (List.replicate (k + 1) (-1)) ∧ Below wA.heap.size wA w2 from
        ⟨by rw [List.replicate_succ']; exact hown, (bstep hh.out.2 (by go_grown)).grown hgrow (by have := hh.out.2.size; simp; omega) (fun q hq => (hh.out.1.lt q hq).1)⟩)
      clear hown hgrow hblk n0 n1
      go_wp2
      go_roundg (M + 1 - (k + 1))
      case rel => exact ⟨k + 1, _, _, by omega, rfl, by go_num, rfl, S2⟩
      case measure => omega
    · obtain rfl : k = M + 1 := by omega
      obtain ⟨g, rfl, hg1, hg2⟩ := own_some hh.out.1 (by omega)
      have hcell := hh.out.1.cell (k := t) t2
      have hfr := hh.out.1.frozen (k := t)
      have ST := hid (show StepIn wA M g c' ((List.replicate (M + 1) (-1)).set t 0) _ from StepIn.set (show StepIn wA M g c' _ W0 from hh.out) t 0)
      have RW := hid (Row.start (l := l) (L := List.replicate (M + 1) (-1)) HG.out ht (by simp) (fun v hv => by simp [show v < M + 1 by omega]))
      clear hh
      go_wp2
      go_loopg [7, 8, 9, 10] M (fun gm st x8 x9 x10 wr => ∃ (s : Nat) (L : List Int), s ≤ M ∧ gm = M - s ∧ st = .int .i64 s ∧ Hid (StepIn wA M g c' L wr) ∧ Hid (Row M l (far l 0 t) s 0 L))
      case atStart => exact ⟨0, _, Nat.zero_le _, rfl, rfl, ST, RW⟩
      case round =>
        obtain ⟨s, L, hs, rfl, rfl, hS, hR⟩ := hrel
        clear ST RW n0 n1 hcell hfr hz0
        obtain ⟨W1, hW1⟩ : ∃ W, W = wr := ⟨_, rfl⟩
        subst hW1
        have n0 := (hS.out.2.cell (p := ⟨w.heap.size, 0, none⟩) hzA).trans N0.out
        have n1 := (hS.out.2.cell (p := ⟨w.heap.size, 1, none⟩) hzA).trans N1.out
        by_cases hsm : s < M
        · go_wp2
          go_loopg [8, 9, 10] n (fun gm i x9 x10 wr => ∃ (k : Nat) (L : List Int), k ≤ n ∧ gm = n - k ∧ i = .int .i64 k ∧ Hid (StepIn wA M g c' L wr) ∧ Hid (Row M l (far l 0 t) s k L))
          case atStart => exact ⟨0, L, Nat.zero_le _, rfl, rfl, hS, hR⟩
          case round =>
            obtain ⟨k, L', hk, rfl, rfl, hS', hR'⟩ := hrel
            clear n0 n1
            have n1 := (hS'.out.2.cell (p := ⟨w.heap.size, 1, none⟩) hzA).trans N1.out
            have hz0 : w.heap.size < wr.heap.size := World.block_lt_of_cell? wr _ n1
            by_cases hlt2 : k < n
            · obtain ⟨b0, off0, rfl, hbw, x0, x1, x2, x3⟩ := QAt.get (H.out.below (bstep BA.out hS'.out.2)) k hlt2
              have hkl : k < l.length := by have := HLN.out; omega
              have HP := hid (goodNet_pipe HG.out hkl)
              have HE := hid (pipe_edge HG.out hkl)
              obtain ⟨p, hp⟩ : ∃ p : Nat, (pp l k).2.1 = p := ⟨(pp l k).2.1.toNat, by have := HP.out.2.1; omega⟩
              obtain ⟨q, hq⟩ : ∃ q : Nat, (pp l k).2.2.1 = q := ⟨(pp l k).2.2.1.toNat, by have := HP.out.2.2.1; omega⟩
              have hp1 : 1 ≤ p ∧ p ≤ M := by have := HP.out.2.1; omega
              have hq1 : 1 ≤ q ∧ q ≤ M := by have := HP.out.2.2.1; omega
              have hpq : ¬ p = q := by have := HP.out.2.2.2.1; omega
              have hqp : ¬ q = p := by omega
              rw [hp] at x1
              rw [hq] at x2
              rw [hp, hq] at HE
              have HPp := hid hp
              have HQq := hid hq
              clear hp hq hkl x0 x3
              go_upto_region 13 with fail
              go_quiet (fail)
              have HS2 := hid (StepIn.below hS'.out (bdraws nq : Below wr.heap.size wr (wr.drewN nq)))
              clear x1 x2 n1 hz0 hbw hS'
              generalize wr.drewN nq = wq at *
              have p0 : (0 : Int) ≤ (p : Int) := by omega
              have p1 : (p : Int) < ((M + 1 : Nat) : Int) := by omega
              have p2 : p < M + 1 := by omega
              have q0 : (0 : Int) ≤ (q : Int) := by omega
              have q1 : (q : Int) < ((M + 1 : Nat) : Int) := by omega
              have q2 : q < M + 1 := by omega
              obtain ⟨lp, hlp⟩ : ∃ lp, L'[p]?.getD 0 = lp := ⟨_, rfl⟩
              obtain ⟨lq, hlq⟩ : ∃ lq, L'[q]?.getD 0 = lq := ⟨_, rfl⟩
              have cp := HS2.out.1.cell (k := p) p2
              have cq := HS2.out.1.cell (k := q) q2
              have fp := HS2.out.1.frozen (k := p)
              have fq := HS2.out.1.frozen (k := q)
              rw [hlp] at cp
              rw [hlq] at cq
              have HLp := hid hlp
              have HLq := hid hlq
              clear hlp hlq
              have hgq : g < wq.heap.size := (HS2.out.1.lt _ rfl).2
              by_cases e1 : lp = s
              · by_cases e2 : lq < 0
                · have RY := hid (hR'.out.yes HG.out hp1 hq1 HE.out.1 (.inr ⟨HQq.out.symm, by
                    have := hR'.out.at' p hp1.1 hp1.2
                    rw [HLp.out, e1] at this
                    rw [HPp.out]
                    exact lev_eq_st.1 this.symm⟩) (fun v hv => by
                    rcases hv with ⟨b1, b2⟩ | ⟨b1, b2⟩
                    · rw [HQq.out] at b2
                      have h9 := hR'.out.at' q hq1.1 hq1.2
                      rw [lev_eq_st.2 b2, HLq.out] at h9
                      omega
                    · rw [b1, HQq.out]) (by rw [HLp.out]; exact e1) (by rw [HLq.out]; exact e2))
                  have e1a : lp ≤ s := by omega
                  have e1b : (s : Int) ≤ lp := by omega
                  clear e1
                  have SY := hid (HS2.out.set q ((s : Int) + 1))
                  go_wp2
                  go_roundg (n - (k + 1))
                  case rel => exact ⟨k + 1, _, by omega, rfl, by go_num, SY, RY⟩
                  case measure => omega
                · have RN := hid (hR'.out.no HPp.out HQq.out hp1 hq1 (fun _ => by rw [HLq.out]; exact e2) (fun _ => by rw [HLp.out]; omega))
                  have e1a : lp ≤ s := by omega
                  have e1b : (s : Int) ≤ lp := by omega
                  have e3 : ¬ lp < 0 := by omega
                  clear e1
                  by_cases e4 : lq = s
                  · have e4a : lq ≤ s := by omega
                    have e4b : (s : Int) ≤ lq := by omega
                    clear e4
                    go_wp2
                    go_roundg (n - (k + 1))
                    case rel => exact ⟨k + 1, L', by omega, rfl, by go_num, HS2, RN⟩
                    case measure => omega
                  · go_wp2
                    go_roundg (n - (k + 1))
                    case rel => exact ⟨k + 1, L', by omega, rfl, by go_num, HS2, RN⟩
                    case measure => omega
              · by_cases e4 : lq = s
                · by_cases e5 : lp < 0
                  · have RY := hid (hR'.out.yes HG.out hq1 hp1 HE.out.2 (.inl ⟨HPp.out.symm, by
                      have := hR'.out.at' q hq1.1 hq1.2
                      rw [HLq.out, e4] at this
                      rw [HQq.out]
                      exact lev_eq_st.1 this.symm⟩) (fun v hv => by
                      rcases hv with ⟨b1, b2⟩ | ⟨b1, b2⟩
                      · rw [b1, HPp.out]
                      · rw [HPp.out] at b2
                        have h9 := hR'.out.at' p hp1.1 hp1.2
                        rw [lev_eq_st.2 b2, HLp.out] at h9
                        omega) (by rw [HLq.out]; exact e4) (by rw [HLp.out]; exact e5))
                    have e4a : lq ≤ s := by omega
                    have e4b : (s : Int) ≤ lq := by omega
                    clear e4
                    have SY := hid (HS2.out.set p ((s : Int) + 1))
                    go_wp2
                    go_roundg (n - (k + 1))
                    case rel => exact ⟨k + 1, _, by omega, rfl, by go_num, SY, RY⟩
                    case measure => omega
                  · have RN := hid (hR'.out.no HPp.out HQq.out hp1 hq1 (fun e => by rw [HLp.out] at e; exact absurd e e1) (fun _ => by rw [HLp.out]; exact e5))
                    have e4a : lq ≤ s := by omega
                    have e4b : (s : Int) ≤ lq := by omega
                    clear e4
                    go_wp2
                    go_roundg (n - (k + 1))
                    case rel => exact ⟨k + 1, L', by omega, rfl, by go_num, HS2, RN⟩
                    case measure => omega
                · have RN := hid (hR'.out.no HPp.out HQq.out hp1 hq1 (fun e => by rw [HLp.out] at e; exact absurd e e1) (fun e => by rw [HLq.out] at e; exact absurd e e4))
                  go_wp2
                  go_roundg (n - (k + 1))
                  case rel => exact ⟨k + 1, L', by omega, rfl, by go_num, HS2, RN⟩
                  case measure => omega
            · obtain rfl : k = n := by omega
              have RX := hid (Row.next HG.out (HLN.out ▸ hR'.out))
              go_wp2
              go_roundg (M - (s + 1))
              case rel => exact ⟨s + 1, L', by omega, rfl, by go_num, hS', RX⟩
              case measure => omega
        · obtain rfl : s = M := by omega
          have E := hid (Row.done HG.out ⟨by omega, by omega⟩ hR.out)
          go_wp2
          go_ret
          refine ⟨_, _, rfl, ?_, bstep BA.out hS.out.2⟩
          rw [← E.out]
          exact hS.out.1.mono (by omega)

end Go.Proofs.Ytlnhikhpkcgegaa

/-
  The reference's shortest way.
-/
set_option linter.unusedVariables false
set_option linter.unusedSimpArgs false
namespace Go.Proofs.Ytlnhikhpkcgegaa
open Go.RowKit

theorem stepB_yes {l : List Pip} {f : Int → Int} {v x : Int} {k : Nat} (ho : oth (pp l k) v = x) (hx : 0 < x) (h : f x = f v - 1) : stepB l f v k = true := stepB_iff.2 ⟨by rw [ho]; exact hx, by rw [ho]; exact h⟩
theorem stepB_no {l : List Pip} {f : Int → Int} {v x : Int} {k : Nat} (ho : oth (pp l k) v = x) (h : ¬ (0 < x ∧ f x = f v - 1)) : stepB l f v k = false := by
  cases e : stepB l f v k
  · rfl
  · rw [stepB_iff, ho] at e
    exact absurd e h
theorem oth_from {p : Pip} {v x : Int} (h1 : p.2.1 = v) (h2 : p.2.2.1 = x) : oth p v = x := by unfold oth; rw [if_pos h1.symm]; exact h2
theorem oth_to {p : Pip} {v x : Int} (h0 : p.2.1 ≠ p.2.2.1) (h1 : p.2.2.1 = v) (h2 : p.2.1 = x) : oth p v = x := by unfold oth; rw [if_neg (fun e => h0 (by rw [h1, e])), if_pos h1.symm]; exact h2
theorem oth_none {p : Pip} {v : Int} (h1 : p.2.1 ≠ v) (h2 : p.2.2.1 ≠ v) : oth p v = 0 := by unfold oth; rw [if_neg (fun e => h1 e.symm), if_neg (fun e => h2 e.symm)]
/-- The first pipe that leads nearer is the one at hand. -/
theorem kk_hit {l : List Pip} {f : Int → Int} {v0 : Int} {j k : Nat} {V : Int} (hV : nod l f v0 j = V) (hk : k < l.length) (h : stepB l f V k = true) (hm : ∀ i, i < k → stepB l f V i = false) : kk l f v0 j = k := by
  unfold kk
  rw [hV]
  exact firstK_hit hk h hm
theorem all_nextB {p : Nat → Bool} {k : Nat} (h : ∀ j, j < k → p j = false) (hk : p k = false) : ∀ j, j < k + 1 → p j = false := fun j hj => by
  by_cases e : j = k
  · subst e; exact hk
  · exact h j (by omega)

set_option maxRecDepth 100000 in
set_option maxHeartbeats 8000000 in
theorem s_l2Way (M v0 t : Nat) (a : Option Addr) (n c : Nat) (l : List Pip) (w : World) (h : QAt w a n l) (hg : goodNet M l = true) (hv : 1 ≤ v0 ∧ v0 ≤ M) (ht : 1 ≤ t ∧ t ≤ M) (d : Nat) (hd : far l 0 t v0 = d) :
    Calls Try.prog 160 #[.agg #[.int .i64 M, .slice a n c], .int .i64 v0, .int .i64 t] w fun e w' => ∃ a' c', e = .returned (.slice a' d c') ∧ OwnI w' w.heap.size (.slice a' d c') (wids l (far l 0 t) v0 d) ∧ Below w.heap.size w w' := by
  have hM : M ≤ 8 := by have := (goodNet_get hg).1; omega
  have hn : n ≤ 10 := by have := (goodNet_get hg).2.1; have := h.1; omega
  have hdM : d < M := by have := far_lt (wo := 0) (v := (v0 : Int)) hg (show 1 ≤ (t : Int) ∧ (t : Int) ≤ M by omega) (by omega) (by omega); omega
  have HLN := hid h.1
  have H := hid h
  have HG := hid hg
  have HDF := hid hd
  clear h hg hd
  go_enter Try.func160, Try.ntmps160
  go_upto_region 1 with fail
  have BA := hid (by go_grown : Below w.heap.size w (w.alloc (.cells #[.int .i64 M, .slice a n c] 26)))
  have N0 := hid (cell_of_row _ _ 0 _ _ (0, 0) (heap_alloc_new w (.cells #[.int .i64 M, .slice a n c] 26)))
  have N1 := hid (cell_of_row _ _ 1 _ _ (0, 0) (heap_alloc_new w (.cells #[.int .i64 M, .slice a n c] 26)))
  have hzA : w.heap.size < (w.alloc (.cells #[.int .i64 M, .slice a n c] 26)).heap.size := by simp
  have n0 := N0.out
  have n1 := N1.out
  simp only [List.getElem?_toArray, List.getElem?_cons_zero, List.getElem?_cons_succ] at n0 n1
  generalize w.alloc (.cells #[.int .i64 M, .slice a n c] 26) = wA at *
  go_wp2_with fail
  refine (s_l2Steps M t _ _ _ l _ (H.out.below BA.out) HG.out ht).mono ?_
  rintro e w1 ⟨g1, c1, rfl, ho1, hb1⟩
  have HO1 := hid ho1
  have HB1 := hid hb1
  have hz1 : w.heap.size < w1.heap.size := by have := hb1.size; omega
  have hgs := ho1.lt g1 rfl
  clear ho1 hb1 n0 n1
  have n1 := (HB1.out.cell (p := ⟨w.heap.size, 1, none⟩) hzA).trans N1.out
  go_wp2
  go_loopg [1, 8, 9, 10, 11] d (fun g fr o i9 i10 i11 wr => ∃ (j V : Nat) (a' : Option Addr) (c' : Nat), j ≤ d ∧ g = d - j ∧ fr = .int .i64 V ∧ o = .slice a' j c' ∧ Hid (nod l (far l 0 t) v0 j = V) ∧ Hid (OwnI wr w1.heap.size (.slice a' j c') (wids l (far l 0 t) v0 j) ∧ Below w1.heap.size w1 wr))
  case atStart => exact ⟨0, v0, _, 0, Nat.zero_le _, rfl, rfl, rfl, hid rfl, hid ⟨by simpa [wids] using OwnI.lit0 w1, by go_grown⟩⟩
  case round =>
    obtain ⟨j, V, a', c', hj, rfl, rfl, rfl, hV, hh⟩ := hrel
    obtain ⟨W1, hW1⟩ : ∃ W, W = wr := ⟨_, rfl⟩
    subst hW1
    have NK := hid (nod_ok (t := (t : Int)) (v0 := (v0 : Int)) HG.out (by omega) (by omega) j (by rw [HDF.out]; omega))
    have NE := hid (nod_end (t := (t : Int)) (v0 := (v0 : Int)) (j := j) HG.out (by omega) (by omega) (by rw [HDF.out]; omega))
    rw [hV.out, HDF.out] at NK NE
    have hVM : 1 ≤ V ∧ V ≤ M := by have := NK.out.1; omega
    by_cases hlt : j < d
    · have hne : ¬ V = t := fun e => by
        have := NE.out.1 (by rw [e])
        omega
      have KK := hid (kk_ok (t := (t : Int)) (v0 := (v0 : Int)) (j := j) HG.out (by omega) (by omega) (by rw [HDF.out]; omega))
      rw [hV.out] at KK
      go_wp2
      go_loopg [1, 8, 9, 10, 11] n (fun gm fr o i x10 x11 wr => ∃ k : Nat, k ≤ n ∧ gm = n - k ∧ i = .int .i64 k ∧ fr = .int .i64 V ∧ o = .slice a' j c' ∧ Hid (∀ i, i < k → stepB l (far l 0 t) V i = false) ∧ Hid (Below W1.heap.size W1 wr))
      case atStart => exact ⟨0, Nat.zero_le _, rfl, rfl, rfl, rfl, hid (fun i hi => absurd hi (by omega)), hid (Below.refl _ _)⟩
      case round =>
        obtain ⟨k, hk, rfl, rfl, rfl, rfl, hm, hb⟩ := hrel
        have hb1 := hid (bstep hh.out.2 hb.out)
        clear n1
        have n1 := ((hb1.out.cell (p := ⟨w.heap.size, 1, none⟩) hz1).trans (HB1.out.cell (p := ⟨w.heap.size, 1, none⟩) hzA)).trans N1.out
        have hz0 : w.heap.size < wr.heap.size := World.block_lt_of_cell? wr _ n1
        by_cases hlt2 : k < n
        · obtain ⟨b0, off0, rfl, hbw, x0, x1, x2, x3⟩ := QAt.get (H.out.below (bstep (bstep BA.out HB1.out) hb1.out)) k hlt2
          have hkl : k < l.length := by have := HLN.out; omega
          have HP := hid (goodNet_pipe HG.out hkl)
          obtain ⟨F, hF⟩ : ∃ F : Nat, (pp l k).2.1 = F := ⟨(pp l k).2.1.toNat, by have := HP.out.2.1; omega⟩
          obtain ⟨T, hT⟩ : ∃ T : Nat, (pp l k).2.2.1 = T := ⟨(pp l k).2.2.1.toNat, by have := HP.out.2.2.1; omega⟩
          have hF1 : 1 ≤ F ∧ F ≤ M := by have := HP.out.2.1; omega
          have hT1 : 1 ≤ T ∧ T ≤ M := by have := HP.out.2.2.1; omega
          have HPN := hid HP.out.2.2.2.1
          rw [hF] at x1
          rw [hT] at x2
          have HFF := hid hF
          have HTT := hid hT
          have HKL := hid hkl
          clear hF hT hkl
          by_cases eF : F = V
          · subst eF
            have HOT := hid (oth_from HFF.out HTT.out)
            obtain ⟨fN, hfN⟩ : ∃ fN, far l 0 t T = fN := ⟨_, rfl⟩
            obtain ⟨fV, hfV⟩ : ∃ fV, far l 0 t F = fV := ⟨_, rfl⟩
            have DN := hid (show (distL M l 0 t)[T]?.getD 0 = fN by rw [distL_at (by omega) (by omega)]; exact hfN)
            have DV := hid (show (distL M l 0 t)[F]?.getD 0 = fV by rw [distL_at (by omega) (by omega)]; exact hfV)
            have hfV1 : fV = d - j := by have := NK.out.2; rw [hfV] at this; exact this
            have hfVb : 0 ≤ fV ∧ fV ≤ 8 := by omega
            have X0 : (0 : Int) ≤ (T : Int) := by omega
            have X1 : (T : Int) < ((M + 1 : Nat) : Int) := by omega
            have X2 : T < M + 1 := by omega
            have X3 : (0 : Int) < (T : Int) := by omega
            have V0 : (0 : Int) ≤ (F : Int) := by omega
            have V1 : (F : Int) < ((M + 1 : Nat) : Int) := by omega
            have V2 : F < M + 1 := by omega
            have V3 : 0 < T := by omega
            have hgw : g1 < wr.heap.size := by have := hb1.out.size; omega
            have cN := (hb1.out.cell (p := ⟨g1, T, none⟩) hgs.2).trans (HO1.out.cell (k := T) X2)
            have cV := (hb1.out.cell (p := ⟨g1, F, none⟩) hgs.2).trans (HO1.out.cell (k := F) V2)
            rw [DN.out] at cN
            rw [DV.out] at cV
            have HFN := hid hfN
            have HFV := hid hfV
            clear hfN hfV hfV1
            by_cases hs : fN = fV - 1
            · have SB := hid (stepB_yes (f := far l 0 t) HOT.out X3 (by rw [HFN.out, HFV.out]; exact hs))
              have E := hid (kk_hit hV.out HKL.out SB.out hm.out)
              have hs1 : fN ≤ fV - 1 := by omega
              have hs2 : fV - 1 ≤ fN := by omega
              have hsb : (fN == fV - 1) = true := by simpa using hs
              clear hs
              go_upto_region 13 with fail
              go_quiet (fail)
              have BX := hid (bstep hb.out (bstep (by go_grown : Below wr.heap.size wr (wr.alloc (.cells #[.int .i64 (pp l k).1, .int .i64 F, .int .i64 T, .int .i64 (pp l k).2.2.2] 40))) (bdraws nq)))
              have pc := ((bdraws nq : Below (wr.alloc (.cells #[.int .i64 (pp l k).1, .int .i64 F, .int .i64 T, .int .i64 (pp l k).2.2.2] 40)).heap.size (wr.alloc (.cells #[.int .i64 (pp l k).1, .int .i64 F, .int .i64 T, .int .i64 (pp l k).2.2.2] 40)) _).cell (p := ⟨wr.heap.size, 0, none⟩) (by simp)).trans (cell_of_row _ _ 0 _ _ (0, 0) (heap_alloc_new wr (.cells #[.int .i64 (pp l k).1, .int .i64 F, .int .i64 T, .int .i64 (pp l k).2.2.2] 40)))
              simp only [List.getElem?_toArray, List.getElem?_cons_zero] at pc
              generalize (wr.alloc (.cells #[.int .i64 (pp l k).1, .int .i64 F, .int .i64 T, .int .i64 (pp l k).2.2.2] 40)).drewN nq = wq at *
              have BY := hid (bstep hh.out.2 BX.out)
              have ho2 := hh.out.1.below BX.out
              go_wp2_with (at_builtin; refine wp_append_ints _ rfl _ _ rfl w1.heap.size _ (wids l (far l 0 t) v0 j) rfl (ho2.alloc _) _ 1 1 [(pp l k).1] rfl (IntsAt.single _ _) (j + 1) (by simp [wids_len]) (by omega) (by have := BY.out.size; simp; omega) ?_)
              intro a2 c2 w5 hown hgrow hblk
              have S2 := hid (show OwnI w5 w1.heap.size (.slice a2 (j + 1) c2) (wids l (far l 0 t) v0 (j + 1)) ∧ Below w1.heap.size w1 w5 from
                ⟨by rw [wids_succ, E.out]; exact hown, (bstep BY.out (by go_grown)).grown hgrow (by have := BY.out.size; simp; omega) (fun q hq => (hh.out.1.lt q hq).1)⟩)
              clear hown hgrow hblk ho2
              go_wp2
              go_roundg (d - (j + 1))
              case rel => exact ⟨j + 1, T, _, _, by omega, rfl, rfl, rfl, hid (by rw [nod_succ, E.out, hV.out]; exact HOT.out), S2⟩
              case measure => omega
            · have SB := hid (stepB_no (f := far l 0 t) HOT.out (fun e => hs (by have := e.2; rw [HFN.out, HFV.out] at this; exact this)))
              have hsb : (fN == fV - 1) = false := by simpa using hs
              go_upto_region 13 with fail
              go_quiet (fail)
              go_wp2
              go_roundg (n - (k + 1))
              case rel => exact ⟨k + 1, by omega, rfl, by go_num, rfl, rfl, hid (all_nextB hm.out SB.out), hid (bstep hb.out (bstep (by go_grown) (bdraws _)))⟩
              case measure => omega
          · have hFV : ((F : Int) == (V : Int)) = false := by simp; omega
            by_cases eT : T = V
            · subst eT
              have HOT := hid (oth_to HPN.out HTT.out HFF.out)
              obtain ⟨fN, hfN⟩ : ∃ fN, far l 0 t F = fN := ⟨_, rfl⟩
              obtain ⟨fV, hfV⟩ : ∃ fV, far l 0 t T = fV := ⟨_, rfl⟩
              have DN := hid (show (distL M l 0 t)[F]?.getD 0 = fN by rw [distL_at (by omega) (by omega)]; exact hfN)
              have DV := hid (show (distL M l 0 t)[T]?.getD 0 = fV by rw [distL_at (by omega) (by omega)]; exact hfV)
              have hfV1 : fV = d - j := by have := NK.out.2; rw [hfV] at this; exact this
              have hfVb : 0 ≤ fV ∧ fV ≤ 8 := by omega
              have X0 : (0 : Int) ≤ (F : Int) := by omega
              have X1 : (F : Int) < ((M + 1 : Nat) : Int) := by omega
              have X2 : F < M + 1 := by omega
              have X3 : (0 : Int) < (F : Int) := by omega
              have V0 : (0 : Int) ≤ (T : Int) := by omega
              have V1 : (T : Int) < ((M + 1 : Nat) : Int) := by omega
              have V2 : T < M + 1 := by omega
              have V3 : 0 < F := by omega
              have hgw : g1 < wr.heap.size := by have := hb1.out.size; omega
              have cN := (hb1.out.cell (p := ⟨g1, F, none⟩) hgs.2).trans (HO1.out.cell (k := F) X2)
              have cV := (hb1.out.cell (p := ⟨g1, T, none⟩) hgs.2).trans (HO1.out.cell (k := T) V2)
              rw [DN.out] at cN
              rw [DV.out] at cV
              have HFN := hid hfN
              have HFV := hid hfV
              clear hfN hfV hfV1
              by_cases hs : fN = fV - 1
              · have SB := hid (stepB_yes (f := far l 0 t) HOT.out X3 (by rw [HFN.out, HFV.out]; exact hs))
                have E := hid (kk_hit hV.out HKL.out SB.out hm.out)
                have hs1 : fN ≤ fV - 1 := by omega
                have hs2 : fV - 1 ≤ fN := by omega
                have hsb : (fN == fV - 1) = true := by simpa using hs
                clear hs
                go_upto_region 13 with fail
                go_quiet (fail)
                have BX := hid (bstep hb.out (bstep (by go_grown : Below wr.heap.size wr (wr.alloc (.cells #[.int .i64 (pp l k).1, .int .i64 F, .int .i64 T, .int .i64 (pp l k).2.2.2] 40))) (bdraws nq)))
                have pc := ((bdraws nq : Below (wr.alloc (.cells #[.int .i64 (pp l k).1, .int .i64 F, .int .i64 T, .int .i64 (pp l k).2.2.2] 40)).heap.size (wr.alloc (.cells #[.int .i64 (pp l k).1, .int .i64 F, .int .i64 T, .int .i64 (pp l k).2.2.2] 40)) _).cell (p := ⟨wr.heap.size, 0, none⟩) (by simp)).trans (cell_of_row _ _ 0 _ _ (0, 0) (heap_alloc_new wr (.cells #[.int .i64 (pp l k).1, .int .i64 F, .int .i64 T, .int .i64 (pp l k).2.2.2] 40)))
                simp only [List.getElem?_toArray, List.getElem?_cons_zero] at pc
                generalize (wr.alloc (.cells #[.int .i64 (pp l k).1, .int .i64 F, .int .i64 T, .int .i64 (pp l k).2.2.2] 40)).drewN nq = wq at *
                have BY := hid (bstep hh.out.2 BX.out)
                have ho2 := hh.out.1.below BX.out
                go_wp2_with (at_builtin; refine wp_append_ints _ rfl _ _ rfl w1.heap.size _ (wids l (far l 0 t) v0 j) rfl (ho2.alloc _) _ 1 1 [(pp l k).1] rfl (IntsAt.single _ _) (j + 1) (by simp [wids_len]) (by omega) (by have := BY.out.size; simp; omega) ?_)
                intro a2 c2 w5 hown hgrow hblk
                have S2 := hid (show OwnI w5 w1.heap.size (.slice a2 (j + 1) c2) (wids l (far l 0 t) v0 (j + 1)) ∧ Below w1.heap.size w1 w5 from
                  ⟨by rw [wids_succ, E.out]; exact hown, (bstep BY.out (by go_grown)).grown hgrow (by have := BY.out.size; simp; omega) (fun q hq => (hh.out.1.lt q hq).1)⟩)
                clear hown hgrow hblk ho2
                go_wp2
                go_roundg (d - (j + 1))
                case rel => exact ⟨j + 1, F, _, _, by omega, rfl, rfl, rfl, hid (by rw [nod_succ, E.out, hV.out]; exact HOT.out), S2⟩
                case measure => omega
              · have SB := hid (stepB_no (f := far l 0 t) HOT.out (fun e => hs (by have := e.2; rw [HFN.out, HFV.out] at this; exact this)))
                have hsb : (fN == fV - 1) = false := by simpa using hs
                go_upto_region 13 with fail
                go_quiet (fail)
                go_wp2
                go_roundg (n - (k + 1))
                case rel => exact ⟨k + 1, by omega, rfl, by go_num, rfl, rfl, hid (all_nextB hm.out SB.out), hid (bstep hb.out (bstep (by go_grown) (bdraws _)))⟩
                case measure => omega
            · have hTV : ((T : Int) == (V : Int)) = false := by simp; omega
              have SB := hid (stepB_no (f := far l 0 t) (oth_none (p := pp l k) (v := (V : Int)) (by rw [HFF.out]; omega) (by rw [HTT.out]; omega)) (by omega))
              go_upto_region 13 with fail
              go_quiet (fail)
              go_wp2
              go_roundg (n - (k + 1))
              case rel => exact ⟨k + 1, by omega, rfl, by go_num, rfl, rfl, hid (all_nextB hm.out SB.out), hid (bstep hb.out (bstep (by go_grown) (bdraws _)))⟩
              case measure => omega
        · have := KK.out.1
          have h9 := hm.out (kk l (far l 0 t) v0 j) (by have := HLN.out; omega)
          rw [KK.out.2.1] at h9
          cases h9
    · obtain rfl : j = d := by omega
      have hVt : V = t := by
        have := NE.out.2 rfl
        omega
      subst hVt
      go_wp2
      go_ret
      exact ⟨_, _, rfl, hh.out.1.mono (by omega), bstep BA.out (bstep HB1.out hh.out.2)⟩

end Go.Proofs.Ytlnhikhpkcgegaa

/-
  The losses along a way: the reference's walk.
-/
set_option linter.unusedVariables false
set_option linter.unusedSimpArgs false
namespace Go.Proofs.Ytlnhikhpkcgegaa
open Go.RowKit

theorem sgl_from {l : List Pip} {fs : List Int} {v : Int} {k : Nat} (h : v = (pp l k).2.1) : sgl l fs v k = loss l fs k := by unfold sgl; rw [if_pos h]
theorem sgl_to {l : List Pip} {fs : List Int} {v : Int} {k : Nat} (h : ¬ v = (pp l k).2.1) : sgl l fs v k = -(loss l fs k) := by unfold sgl; rw [if_neg h]

/-- What a drawn region of the walk may rest on. -/
abbrev AlongC (w W1 : World) (M : Nat) (b0 off0 n c g j : Nat) (x : Int) (w' : World) : Prop :=
  Below W1.heap.size W1 w' ∧ w'.cell? ⟨w.heap.size, 0, none⟩ = some (.int .i64 M) ∧ w'.cell? ⟨w.heap.size, 1, none⟩ = some (.slice (some ⟨b0, off0, none⟩) n c) ∧ w'.cell? ⟨g, j, none⟩ = some (.int .i64 x)
theorem AlongC.keep (w W1 : World) (M : Nat) (b0 off0 n c g j : Nat) (x : Int) (wy w5 : World) (h : AlongC w W1 M b0 off0 n c g j x wy) (hb : Below wy.heap.size wy w5) : AlongC w W1 M b0 off0 n c g j x w5 :=
  ⟨bstep h.1 hb, (hb.cell (World.block_lt_of_cell? wy _ h.2.1)).trans h.2.1, (hb.cell (World.block_lt_of_cell? wy _ h.2.2.1)).trans h.2.2.1, (hb.cell (World.block_lt_of_cell? wy _ h.2.2.2)).trans h.2.2.2⟩
abbrev LossC (W1 : World) (P : Nat) (b1 off1 K : Nat) (p0 p1 p2 p3 x : Int) (w' : World) : Prop :=
  Below W1.heap.size W1 w' ∧ w'.cell? ⟨P, 0, none⟩ = some (.int .i64 p0) ∧ w'.cell? ⟨P, 1, none⟩ = some (.int .i64 p1) ∧ w'.cell? ⟨P, 2, none⟩ = some (.int .i64 p2) ∧ w'.cell? ⟨P, 3, none⟩ = some (.int .i64 p3) ∧ w'.cell? ⟨b1, off1 + K, none⟩ = some (.int .i64 x)
theorem LossC.keep (W1 : World) (P : Nat) (b1 off1 K : Nat) (p0 p1 p2 p3 x : Int) (wy w5 : World) (h : LossC W1 P b1 off1 K p0 p1 p2 p3 x wy) (hb : Below wy.heap.size wy w5) : LossC W1 P b1 off1 K p0 p1 p2 p3 x w5 :=
  ⟨bstep h.1 hb, (hb.cell (World.block_lt_of_cell? wy _ h.2.1)).trans h.2.1, (hb.cell (World.block_lt_of_cell? wy _ h.2.2.1)).trans h.2.2.1, (hb.cell (World.block_lt_of_cell? wy _ h.2.2.2.1)).trans h.2.2.2.1, (hb.cell (World.block_lt_of_cell? wy _ h.2.2.2.2.1)).trans h.2.2.2.2.1, (hb.cell (World.block_lt_of_cell? wy _ h.2.2.2.2.2)).trans h.2.2.2.2.2⟩

set_option maxRecDepth 100000 in
set_option maxHeartbeats 8000000 in
theorem s_l9Along (M v0 t : Nat) (a p : Option Addr) (n c e0 : Nat) (l : List Pip) (fs : List Int) (w : World) (h : QAt w a n l) (h' : IntsAt w p n fs) (hg : goodNet M l = true) (hfl : goodFl n fs = true) (hv : 1 ≤ v0 ∧ v0 ≤ M) (ht : 1 ≤ t ∧ t ≤ M) (d : Nat) (hd : far l 0 t v0 = d) :
    Calls Try.prog 118 #[.agg #[.int .i64 M, .slice a n c], .slice p n e0, .int .i64 v0, .int .i64 t] w fun e w' => e = .returned (.int .i64 (lsum l fs (far l 0 t) v0 d)) ∧ Below w.heap.size w w' := by
  have hM : M ≤ 8 := by have := (goodNet_get hg).1; omega
  have hn : n ≤ 10 := by have := (goodNet_get hg).2.1; have := h.1; omega
  have hdM : d < M := by have := far_lt (wo := 0) (v := (v0 : Int)) hg (show 1 ≤ (t : Int) ∧ (t : Int) ≤ M by omega) (by omega) (by omega); omega
  have HLN := hid h.1
  have HFN := hid h'.1
  have H := hid h
  have H' := hid h'
  have HG := hid hg
  have HF := hid (show goodFl l.length fs = true by rw [h.1]; exact hfl)
  have HDF := hid hd
  clear h h' hg hd hfl
  go_enter Try.func118, Try.ntmps118
  go_upto_region 1 with fail
  have BA := hid (by go_grown : Below w.heap.size w (w.alloc (.cells #[.int .i64 M, .slice a n c] 26)))
  have N0 := hid (cell_of_row _ _ 0 _ _ (0, 0) (heap_alloc_new w (.cells #[.int .i64 M, .slice a n c] 26)))
  have N1 := hid (cell_of_row _ _ 1 _ _ (0, 0) (heap_alloc_new w (.cells #[.int .i64 M, .slice a n c] 26)))
  have hzA : w.heap.size < (w.alloc (.cells #[.int .i64 M, .slice a n c] 26)).heap.size := by simp
  have n0 := N0.out
  have n1 := N1.out
  simp only [List.getElem?_toArray, List.getElem?_cons_zero, List.getElem?_cons_succ] at n0 n1
  generalize w.alloc (.cells #[.int .i64 M, .slice a n c] 26) = wA at *
  go_wp2_with fail
  refine (s_l2Way M v0 t _ _ _ l _ (H.out.below BA.out) HG.out hv ht d HDF.out).mono ?_
  rintro e w1 ⟨a1, c1, rfl, ho1, hb1⟩
  have HO1 := hid ho1
  have HB1 := hid hb1
  have hz1 : w.heap.size < w1.heap.size := by have := hb1.size; omega
  have n0 := (HB1.out.cell (p := ⟨w.heap.size, 0, none⟩) hzA).trans N0.out
  have n1 := (HB1.out.cell (p := ⟨w.heap.size, 1, none⟩) hzA).trans N1.out
  simp only [List.getElem?_toArray, List.getElem?_cons_zero, List.getElem?_cons_succ] at n0 n1
  have M0 := hid n0
  have M1 := hid n1
  clear ho1 hb1
  go_wp2
  go_loopg [2, 10, 11] d (fun g fr sm i wr => ∃ j V : Nat, j ≤ d ∧ g = d - j ∧ fr = .int .i64 V ∧ sm = .int .i64 (lsum l fs (far l 0 t) v0 j) ∧ i = .int .i64 j ∧ Hid (nod l (far l 0 t) v0 j = V) ∧ Hid (Below w1.heap.size w1 wr))
  case atStart => exact ⟨0, v0, Nat.zero_le _, rfl, rfl, by simp [lsum], rfl, hid rfl, hid (by go_grown)⟩
  case round =>
    obtain ⟨j, V, hj, rfl, rfl, rfl, rfl, hV, hh⟩ := hrel
    have NK := hid (nod_ok (t := (t : Int)) (v0 := (v0 : Int)) HG.out (by omega) (by omega) j (by rw [HDF.out]; omega))
    rw [hV.out, HDF.out] at NK
    have hVM : 1 ≤ V ∧ V ≤ M := by have := NK.out.1; omega
    clear n0 n1
    by_cases hlt : j < d
    · have KK := hid (kk_ok (t := (t : Int)) (v0 := (v0 : Int)) (j := j) HG.out (by omega) (by omega) (by rw [HDF.out]; omega))
      rw [hV.out] at KK
      obtain ⟨K, hK⟩ : ∃ K, kk l (far l 0 t) v0 j = K := ⟨_, rfl⟩
      rw [hK] at KK
      have HK := hid hK
      have hKn : K < n := by have := KK.out.1; have := HLN.out; omega
      obtain ⟨bw, ow, rfl, hbw1, hwc⟩ := HO1.out.at.2 j hlt
      have hcw := (hh.out.cell (p := ⟨bw, ow + j, none⟩) hbw1).trans hwc
      rw [wids_get l _ _ hlt, hK] at hcw
      obtain ⟨g5, h5, -, -⟩ := own_some HO1.out (by omega)
      simp only [Option.some.injEq, Addr.mk.injEq] at h5
      obtain ⟨rfl, rfl, -⟩ := h5
      rw [Nat.zero_add] at hcw
      obtain ⟨b0, off0, rfl, hbw, x0, x1, x2, x3⟩ := QAt.get (H.out.below (bstep (bstep BA.out HB1.out) hh.out)) K hKn
      have HP := hid (goodNet_pipe HG.out KK.out.1)
      obtain ⟨F, hF⟩ : ∃ F : Nat, (pp l K).2.1 = F := ⟨(pp l K).2.1.toNat, by have := HP.out.2.1; omega⟩
      obtain ⟨T, hT⟩ : ∃ T : Nat, (pp l K).2.2.1 = T := ⟨(pp l K).2.2.1.toNat, by have := HP.out.2.2.1; omega⟩
      have HFQ := hid (findQ_at HG.out KK.out.1)
      have HVE := hid (oth_ends rfl (stepB_iff.1 KK.out.2.1).1)
      rw [hF, hT] at HVE
      have HFF := hid hF
      have HTT := hid hT
      have lf := lsum_fit (t := (t : Int)) (v0 := (v0 : Int)) HG.out HF.out (by omega) (by omega) j (by rw [HDF.out]; omega)
      have lg := sgl_fit (v := (V : Int)) HG.out HF.out KK.out.1
      have HS := hid (lsum_succ l fs (far l 0 t) v0 j)
      rw [hK, hV.out] at HS
      have HNS := hid (show nod l (far l 0 t) v0 (j + 1) = oth (pp l K) V from by rw [nod_succ, hK, hV.out])
      rw [hF] at x1
      rw [hT] at x2
      clear hF hT hK hbw1 hwc
      have X := hid (show AlongC w wr M b0 off0 n c bw j (pp l K).1 wr.drew from ⟨(Below.refl _ _).drew, (hh.out.cell (p := ⟨w.heap.size, 0, none⟩) hz1).trans M0.out, (hh.out.cell (p := ⟨w.heap.size, 1, none⟩) hz1).trans M1.out, hcw⟩)
      clear hcw
      go_upto_region 6 with fail
      refine wp_region_calm (C := (fun w' => Below wr.heap.size wr w' ∧ w'.cell? ⟨w.heap.size, 0, none⟩ = some (.int .i64 M) ∧ w'.cell? ⟨w.heap.size, 1, none⟩ = some (.slice (some ⟨b0, off0, none⟩) n c) ∧ w'.cell? ⟨bw, j, none⟩ = some (.int .i64 (pp l K).1))) (by kernel_rfl) (by kernel_rfl) (X.out) ?_
      repeat
        first
          | go_big_quiet_skip
          | (go_big_quiet_want
             first
               | (unfold Oper.quiet
                  apply Exists.intro
                  refine ⟨fun wq hq => ?_, ?_⟩
                  · (try dsimp only at hq
                     simp [go_sem, Oper.quietAt, Oper.quietUpon, BigFrame.eval_const, BigFrame.eval_global, BigFrame.eval_func, ↓IntWalk.iteOmega, *]
                     first | done | rfl | (refine calm_call hq (AlongC.keep w wr M b0 off0 n c bw j (pp l K).1) (s_l2Find _ _ _ _ _ l _ (H.out.below (bstep (bstep (bstep BA.out HB1.out) hh.out) hq.1)) (by omega)) (by rw [HFQ.out])))
                  simp only [Act.put, List.setIfInBounds_toArray, List.set_cons_succ, List.set_cons_zero]
                  go_big_quiet_on))
      refine wpQuiet_nil ?_
      intro wc hcalm
      try dsimp only at hcalm
      have HC := hid (hcalm.1 : Below wr.heap.size wr wc)
      have n1 := hcalm.2.2.1
      clear hcalm X
      have y0 := (HC.out.cell (p := ⟨b0, off0 + K * 4, none⟩) hbw).trans x0
      have y1 := (HC.out.cell (p := ⟨b0, off0 + K * 4 + 1, none⟩) hbw).trans x1
      have y2 := (HC.out.cell (p := ⟨b0, off0 + K * 4 + 2, none⟩) hbw).trans x2
      have y3 := (HC.out.cell (p := ⟨b0, off0 + K * 4 + 3, none⟩) hbw).trans x3
      have hbc : b0 < wc.heap.size := World.block_lt_of_cell? wc _ y0
      obtain ⟨b1, off1, e1, hb1w, hfc⟩ := (H'.out.below (bstep (bstep (bstep BA.out HB1.out) hh.out) HC.out)).2 K hKn
      subst e1
      have hfq := (goodFl_iff.1 HF.out).2 _ (getD_mem fs K (by have := HFN.out; omega))
      obtain ⟨q, hq0⟩ : ∃ q, fs[K]?.getD 0 = q := ⟨_, rfl⟩
      rw [hq0] at hfc hfq
      have HLO := hid (show (pp l K).2.2.2 * q * max q (-q) = loss l fs K from by unfold loss; rw [hq0])
      have hsz := HP.out.2.2.2.2
      clear x0 x1 x2 x3 hbw hq0
      by_cases eF : F = V
      · subst eF
        have HSG := hid (sgl_from (fs := fs) (v := (F : Int)) HFF.out.symm)
        have HOT := hid (oth_from HFF.out HTT.out)
        rw [HSG.out] at lg
        have hw9 := IntWalk.i64_in (lsum l fs (far l 0 t) v0 j + loss l fs K) (by omega)
        go_upto_region 9 with fail
        have hbp : Below wc.heap.size wc (wc.alloc (.cells #[.int .i64 (pp l K).1, .int .i64 F, .int .i64 T, .int .i64 (pp l K).2.2.2] 40)) := by go_grown
        have X9 := hid (show LossC wc wc.heap.size b1 off1 K (pp l K).1 F T (pp l K).2.2.2 q (wc.alloc (.cells #[.int .i64 (pp l K).1, .int .i64 F, .int .i64 T, .int .i64 (pp l K).2.2.2] 40)).drew from ⟨hbp.drew, cell_of_row _ _ 0 _ _ (0, 0) (heap_alloc_new _ _), cell_of_row _ _ 1 _ _ (0, 0) (heap_alloc_new _ _), cell_of_row _ _ 2 _ _ (0, 0) (heap_alloc_new _ _), cell_of_row _ _ 3 _ _ (0, 0) (heap_alloc_new _ _), (hbp.cell (p := ⟨b1, off1 + K, none⟩) hb1w).trans hfc⟩)
        clear hbp hfc y0 y1 y2 y3
        refine wp_region_calm (C := (fun w' => Below wc.heap.size wc w' ∧ w'.cell? ⟨wc.heap.size, 0, none⟩ = some (.int .i64 (pp l K).1) ∧ w'.cell? ⟨wc.heap.size, 1, none⟩ = some (.int .i64 F) ∧ w'.cell? ⟨wc.heap.size, 2, none⟩ = some (.int .i64 T) ∧ w'.cell? ⟨wc.heap.size, 3, none⟩ = some (.int .i64 (pp l K).2.2.2) ∧ w'.cell? ⟨b1, off1 + K, none⟩ = some (.int .i64 q))) (by kernel_rfl) (by kernel_rfl) (X9.out) ?_
        repeat
          first
            | go_big_quiet_skip
            | (go_big_quiet_want
               first
                 | (unfold Oper.quiet
                    apply Exists.intro
                    refine ⟨fun wq hq => ?_, ?_⟩
                    · (try dsimp only at hq
                       simp [go_sem, Oper.quietAt, Oper.quietUpon, BigFrame.eval_const, BigFrame.eval_global, BigFrame.eval_func, ↓IntWalk.iteOmega, *]
                       first | done | rfl | (refine calm_call hq (LossC.keep wc wc.heap.size b1 off1 K (pp l K).1 F T (pp l K).2.2.2 q) (s_l9Loss _ _ _ _ _ _ hsz hfq) (by rw [HLO.out])))
                    simp only [Act.put, List.setIfInBounds_toArray, List.set_cons_succ, List.set_cons_zero]
                    go_big_quiet_on))
        refine wpQuiet_nil ?_
        intro wc hcalm
        try dsimp only at hcalm
        rename_i w9
        have HC9 := hid hcalm.1
        have p1 := hcalm.2.2.1
        have p2 := hcalm.2.2.2.1
        clear hcalm X9
        go_wp2
        go_roundg (d - (j + 1))
        case rel => exact ⟨j + 1, T, by omega, rfl, rfl, by rw [HS.out, HSG.out], by go_num, hid (by rw [HNS.out]; exact HOT.out), hid (bstep (bstep hh.out HC.out) HC9.out)⟩
        case measure => omega
      · have hTV : V = T := by have := HVE.out; omega
        have hFV : ((F : Int) == (V : Int)) = false := by simp; omega
        have HSG := hid (sgl_to (fs := fs) (v := (V : Int)) (k := K) (by rw [HFF.out]; omega))
        have HOT := hid (oth_to (v := (V : Int)) HP.out.2.2.2.1 (by rw [HTT.out]; omega) HFF.out)
        rw [HSG.out] at lg
        have hw9 := IntWalk.i64_in (lsum l fs (far l 0 t) v0 j - loss l fs K) (by omega)
        go_upto_region 11 with fail
        have hbp : Below wc.heap.size wc (wc.alloc (.cells #[.int .i64 (pp l K).1, .int .i64 F, .int .i64 T, .int .i64 (pp l K).2.2.2] 40)) := by go_grown
        have X9 := hid (show LossC wc wc.heap.size b1 off1 K (pp l K).1 F T (pp l K).2.2.2 q (wc.alloc (.cells #[.int .i64 (pp l K).1, .int .i64 F, .int .i64 T, .int .i64 (pp l K).2.2.2] 40)).drew from ⟨hbp.drew, cell_of_row _ _ 0 _ _ (0, 0) (heap_alloc_new _ _), cell_of_row _ _ 1 _ _ (0, 0) (heap_alloc_new _ _), cell_of_row _ _ 2 _ _ (0, 0) (heap_alloc_new _ _), cell_of_row _ _ 3 _ _ (0, 0) (heap_alloc_new _ _), (hbp.cell (p := ⟨b1, off1 + K, none⟩) hb1w).trans hfc⟩)
        clear hbp hfc y0 y1 y2 y3
        refine wp_region_calm (C := (fun w' => Below wc.heap.size wc w' ∧ w'.cell? ⟨wc.heap.size, 0, none⟩ = some (.int .i64 (pp l K).1) ∧ w'.cell? ⟨wc.heap.size, 1, none⟩ = some (.int .i64 F) ∧ w'.cell? ⟨wc.heap.size, 2, none⟩ = some (.int .i64 T) ∧ w'.cell? ⟨wc.heap.size, 3, none⟩ = some (.int .i64 (pp l K).2.2.2) ∧ w'.cell? ⟨b1, off1 + K, none⟩ = some (.int .i64 q))) (by kernel_rfl) (by kernel_rfl) (X9.out) ?_
        repeat
          first
            | go_big_quiet_skip
            | (go_big_quiet_want
               first
                 | (unfold Oper.quiet
                    apply Exists.intro
                    refine ⟨fun wq hq => ?_, ?_⟩
                    · (try dsimp only at hq
                       simp [go_sem, Oper.quietAt, Oper.quietUpon, BigFrame.eval_const, BigFrame.eval_global, BigFrame.eval_func, ↓IntWalk.iteOmega, *]
                       first | done | rfl | (refine calm_call hq (LossC.keep wc wc.heap.size b1 off1 K (pp l K).1 F T (pp l K).2.2.2 q) (s_l9Loss _ _ _ _ _ _ hsz hfq) (by rw [HLO.out])))
                    simp only [Act.put, List.setIfInBounds_toArray, List.set_cons_succ, List.set_cons_zero]
                    go_big_quiet_on))
        refine wpQuiet_nil ?_
        intro wc hcalm
        try dsimp only at hcalm
        rename_i w9
        have HC9 := hid hcalm.1
        have p1 := hcalm.2.2.1
        have p2 := hcalm.2.2.2.1
        clear hcalm X9
        go_wp2
        go_roundg (d - (j + 1))
        case rel => exact ⟨j + 1, F, by omega, rfl, rfl, by rw [HS.out, HSG.out, Int.sub_eq_add_neg], by go_num, hid (by rw [HNS.out]; exact HOT.out), hid (bstep (bstep hh.out HC.out) HC9.out)⟩
        case measure => omega
    · obtain rfl : j = d := by omega
      go_wp2
      go_ret
      exact ⟨rfl, bstep BA.out (bstep HB1.out hh.out)⟩

end Go.Proofs.Ytlnhikhpkcgegaa

/-
  Heads in a tree: the reference's walk.
-/
set_option linter.unusedVariables false
set_option linter.unusedSimpArgs false
namespace Go.Proofs.Ytlnhikhpkcgegaa
open Go.RowKit

theorem tflow_fit {M : Nat} {l : List Pip} {s : Int} {ds : List Int} {i : Nat} (hM : M ≤ 8) (hl : ds.length = M) (h : ∀ x ∈ ds, 0 ≤ x ∧ x ≤ 1000) : -8000 ≤ tflow M l s ds i ∧ tflow M l s ds i ≤ 8000 := by
  have := dsum_fit (D := distL M l (pp l i).1 s) h M (by omega)
  unfold tflow
  split <;> omega
theorem tflows_good {M n : Nat} {l : List Pip} {s : Int} {ds : List Int} (hM : M ≤ 8) (hl : ds.length = M) (h : ∀ x ∈ ds, 0 ≤ x ∧ x ≤ 1000) : goodFl n (tflows M l s ds n) = true := by
  rw [goodFl_iff]
  refine ⟨tflows_len _ _ _ _ _, fun x hx => ?_⟩
  unfold tflows at hx
  obtain ⟨i, -, rfl⟩ := List.mem_map.1 hx
  exact tflow_fit hM hl h

set_option maxRecDepth 100000 in
set_option maxHeartbeats 4000000 in
theorem s_l9Heads (M s : Nat) (hd0 : Int) (a p : Option Addr) (n c d : Nat) (l : List Pip) (ds : List Int) (w : World) (h : QAt w a n l) (h' : IntsAt w p M ds) (hg : goodNet M l = true) (hs : 1 ≤ s ∧ s ≤ M) (hd : ∀ x ∈ ds, 0 ≤ x ∧ x ≤ 1000) (ht : treeB M l = true) (hc : n ≤ c) (hh0 : 0 ≤ hd0 ∧ hd0 ≤ 100000000000) :
    Calls Try.prog 104 #[.agg #[.int .i64 M, .slice a n c], .int .i64 s, .slice p M d, .int .i64 hd0] w fun e w' => ∃ a' c', e = .returned (.slice a' M c') ∧ OwnI w' w.heap.size (.slice a' M c') (headL l (tflows M l s ds n) s hd0 M) ∧ Below w.heap.size w w' := by
  have hM : M ≤ 8 := by have := (goodNet_get hg).1; omega
  have hn : n ≤ 10 := by have := (goodNet_get hg).2.1; have := h.1; omega
  have hln := h.1
  have HLN := hid h.1
  have H := hid h
  have H' := hid h'
  have HG := hid hg
  have HD := hid hd
  have HT := hid ht
  have HF := hid (tflows_good (n := n) (l := l) (s := (s : Int)) hM h'.1 hd)
  have HFL := hid (show goodFl l.length (tflows M l s ds n) = true by rw [hln]; exact tflows_good hM h'.1 hd)
  obtain ⟨fs, hfs⟩ : ∃ fs, tflows M l s ds n = fs := ⟨_, rfl⟩
  have HFS := hid hfs
  rw [hfs] at HF HFL ⊢
  clear h h' hg hd ht hln hfs
  go_enter Try.func104, Try.ntmps104
  go_upto_region 1 with fail
  have BA := hid (by go_grown : Below w.heap.size w (w.alloc (.cells #[.int .i64 M, .slice a n c] 26)))
  have N0 := hid (cell_of_row _ _ 0 _ _ (0, 0) (heap_alloc_new w (.cells #[.int .i64 M, .slice a n c] 26)))
  have N1 := hid (cell_of_row _ _ 1 _ _ (0, 0) (heap_alloc_new w (.cells #[.int .i64 M, .slice a n c] 26)))
  have hzA : w.heap.size < (w.alloc (.cells #[.int .i64 M, .slice a n c] 26)).heap.size := by simp
  have n0 := N0.out
  have n1 := N1.out
  simp only [List.getElem?_toArray, List.getElem?_cons_zero, List.getElem?_cons_succ] at n0 n1
  generalize w.alloc (.cells #[.int .i64 M, .slice a n c] 26) = wA at *
  go_wp2_with fail
  refine (s_l8TreeFlows M s _ _ n _ _ l ds _ (H.out.below BA.out) (H'.out.below BA.out) HG.out (by omega) HD.out HT.out hc).mono ?_
  rintro e w1 ⟨a1, c1, rfl, ho1, hb1⟩
  rw [HFS.out] at ho1
  have HO1 := hid ho1
  have HB1 := hid hb1
  have hz1 : w.heap.size < w1.heap.size := by have := hb1.size; omega
  have n0 := (HB1.out.cell (p := ⟨w.heap.size, 0, none⟩) hzA).trans N0.out
  have n1 := (HB1.out.cell (p := ⟨w.heap.size, 1, none⟩) hzA).trans N1.out
  simp only [List.getElem?_toArray, List.getElem?_cons_zero, List.getElem?_cons_succ] at n0 n1
  have M0 := hid n0
  have M1 := hid n1
  clear ho1 hb1
  go_wp2
  go_loopg [10, 11] M (fun g o i wr => ∃ (k : Nat) (a' : Option Addr) (c' : Nat), k ≤ M ∧ g = M - k ∧ i = .int .i64 ((k : Int) + 1) ∧ o = .slice a' k c' ∧ Hid (OwnI wr w1.heap.size (.slice a' k c') (headL l fs s hd0 k) ∧ Below w1.heap.size w1 wr))
  case atStart => exact ⟨0, _, 0, Nat.zero_le _, rfl, rfl, rfl, hid ⟨by simpa [headL] using OwnI.lit0 w1, by go_grown⟩⟩
  case round =>
    obtain ⟨k, a', c', hk, rfl, rfl, rfl, hh⟩ := hrel
    clear n0 n1
    have n0 := (hh.out.2.cell (p := ⟨w.heap.size, 0, none⟩) hz1).trans M0.out
    have n1 := (hh.out.2.cell (p := ⟨w.heap.size, 1, none⟩) hz1).trans M1.out
    have hz0 : w.heap.size < wr.heap.size := World.block_lt_of_cell? wr _ n0
    by_cases hlt : k < M
    · have hkm : (k : Int) + 1 ≤ (M : Int) := by omega
      obtain ⟨t0, ht0⟩ : ∃ t0 : Nat, (k : Int) + 1 = t0 := ⟨k + 1, by omega⟩
      have htM : 1 ≤ t0 ∧ t0 ≤ M := by omega
      have hc0 : 0 ≤ far l 0 t0 s := ((treeB_iff HG.out).1 HT.out).2 t0 s (by omega) (by omega) (by omega) (by omega)
      obtain ⟨d0, hd0'⟩ : ∃ d0 : Nat, far l 0 t0 s = d0 := ⟨(far l 0 t0 s).toNat, by omega⟩
      have hdM : d0 < M := by have := far_lt (wo := 0) (v := (s : Int)) HG.out (show 1 ≤ (t0 : Int) ∧ (t0 : Int) ≤ M by omega) (by omega) (by omega); omega
      have lf := lsum_fit (t := (t0 : Int)) (v0 := (s : Int)) HG.out HFL.out (by omega) (by omega) d0 (by rw [hd0']; omega)
      have HE := hid (show headL l fs s hd0 (k + 1) = headL l fs s hd0 k ++ [hd0 - lsum l fs (far l 0 t0) s d0] from by
        rw [headL_succ, ht0]
        unfold headAt
        rw [hd0']
        rfl)
      have hw9 := IntWalk.i64_in (hd0 - lsum l fs (far l 0 t0) s d0) (by omega)
      have HDD := hid hd0'
      have HT0 := hid ht0
      obtain ⟨y, hy⟩ : ∃ y, lsum l fs (far l 0 t0) s d0 = y := ⟨_, rfl⟩
      rw [hy] at lf HE hw9
      have HY := hid hy
      clear hd0' ht0 hy
      go_wp2_with fail
      rw [HT0.out]
      refine (s_l9Along M s t0 _ _ _ _ _ l fs _ (H.out.below (bstep (bstep BA.out HB1.out) hh.out.2)) ((HO1.out.at).below hh.out.2) HG.out HF.out hs htM d0 HDD.out).mono ?_
      rintro e w2 ⟨rfl, hb2⟩
      rw [HY.out, ← HT0.out]
      have HB2 := hid hb2
      have ho2 := hh.out.1.below hb2
      clear hb2 n0 n1
      go_wp2_with (at_builtin; refine wp_append_ints _ rfl _ _ rfl w1.heap.size _ (headL l fs s hd0 k) rfl (ho2.alloc _) _ 1 1 [hd0 - y] rfl (IntsAt.single _ _) (k + 1) (by simp [headL_len]) (by omega) (by have := hh.out.2.size; have := HB2.out.size; simp; omega) ?_)
      intro a2 c2 w3 hown hgrow hblk
      have S2 := hid (show OwnI w3 w1.heap.size (.slice a2 (k + 1) c2) (headL l fs s hd0 (k + 1)) ∧ Below w1.heap.size w1 w3 from
        ⟨by rw [HE.out]; exact hown, (bstep (bstep hh.out.2 HB2.out) (by go_grown)).grown hgrow (by have := hh.out.2.size; have := HB2.out.size; simp; omega) (fun q hq => (hh.out.1.lt q hq).1)⟩)
      clear hown hgrow hblk ho2
      go_wp2
      go_roundg (M - (k + 1))
      case rel => exact ⟨k + 1, _, _, by omega, rfl, by go_num, rfl, S2⟩
      case measure => omega
    · obtain rfl : k = M := by omega
      go_wp2
      go_ret
      exact ⟨_, _, rfl, hh.out.1.mono (by have := BA.out.size; omega), bstep BA.out (bstep HB1.out hh.out.2)⟩

end Go.Proofs.Ytlnhikhpkcgegaa

