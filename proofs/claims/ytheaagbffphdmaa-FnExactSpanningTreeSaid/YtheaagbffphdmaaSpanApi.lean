/-
  SpanningTree, in the program.
-/
import Derived.Test.YtheaagbffphdmaaSpanR
set_option linter.unusedVariables false
set_option linter.unusedSimpArgs false
namespace Go.Proofs.Ytheaagbffphdmaa
open Go.RowKit

set_option maxRecDepth 100000 in
set_option maxHeartbeats 4000000 in
theorem i_SpanningTree (N : Int) (a : Option Addr) (n c : Nat) (l : List Pip) (w : World) (h : QAt w a n l) (hn : n ≤ 1048576) (x : Int) (R : List Pip) (b : Bool) (hR : spanR N l = (x, R, b)) :
    Calls Try.prog 45 #[.agg #[.int .i64 N, .slice a n c]] w fun e w' => ∃ a' m c', e = .returned (.tuple #[.agg #[.int .i64 x, .slice a' m c'], .bool b]) ∧ OwnQ w' w.heap.size (.slice a' m c') R ∧ Below w.heap.size w w' := by
  have H := hid h
  have hl := h.1
  clear h
  cases h1 : goodNet N l
  · rw [spanR_no (.inl h1)] at hR
    cases hR
    have HG := hid h1
    clear h1 hl
    go_enter Try.func45, Try.ntmps45
    go_wp2_with fail
    refine (i_IsValidNetwork N _ _ _ l _ (H.out.below (by go_grown)) (by omega)).mono ?_
    rintro e w1 ⟨rfl, hb1⟩
    rw [HG.out]
    obtain ⟨hc_w1, hf_w1⟩ := bcell hb1
    have hz1 := hb1.size
    simp only [World.size_alloc] at hz1
    have hz_w1_0 : w.heap.size < w1.heap.size := by omega
    have hz_w1_1 : w.heap.size + 1 < w1.heap.size := by omega
    have HB1 := hid (bstep (by go_grown) hb1 : Below w.heap.size w w1)
    have T1 := hid ((hb1.block (w.heap.size + 1) (by simp)).trans (last_new (w.alloc _) _ _ (by simp)))
    have A1 := hid ((hb1.block w.heap.size (by simp <;> omega)).trans (mid_new w _ _ _ rfl))
    have y0 := cell_of_row w1 _ 0 _ _ (0, 0) T1.out
    have y1 := cell_of_row w1 _ 1 _ _ (0, 0) T1.out
    simp only [List.getElem?_toArray, List.getElem?_cons_zero, List.getElem?_cons_succ] at y0 y1
    have f0 := frozen_of_row w1 _ 0 _ _ T1.out
    have f1 := frozen_of_row w1 _ 1 _ _ T1.out
    have e7 := heap_setCell_same _ _ 1 _ _ (.slice none 0 0) (heap_setCell_same _ _ 0 _ _ (.int .i64 0) T1.out)
    have u0 := cell_of_row _ _ 0 _ _ (0, 0) e7
    have u1 := cell_of_row _ _ 1 _ _ (0, 0) e7
    simp only [List.setIfInBounds_toArray, List.set_cons_zero, List.set_cons_succ, List.getElem?_toArray, List.getElem?_cons_zero, List.getElem?_cons_succ] at u0 u1
    clear e7
    go_wp2
    refine bodyPost_ret (v := .tuple #[.agg #[.int .i64 0, .slice none 0 0], .bool false]) (by simp [results, Try.results45, go_sem, *]) rfl ⟨_, _, _, rfl, OwnS.nil _ _, ?_⟩
    exact (HB1.out.setCell (by show w.heap.size ≤ w.heap.size + 1; omega) _).setCell (by show w.heap.size ≤ w.heap.size + 1; omega) _
  · have hN := (goodNet_get h1).1
    obtain ⟨M, rfl⟩ : ∃ M : Nat, N = M := ⟨N.toNat, by omega⟩
    have HG := hid h1
    have hM : M ≤ 8 := by omega
    have hn10 : n ≤ 10 := by have := (goodNet_get h1).2.1; omega
    have HLN := hid hl
    have hpo := parts_one' h1
    have hc1 := (cnt_one h1 M (by omega) (by omega)).1
    clear hN
    by_cases hq : cnt M l M = 1
    · have e0 : spanR M l = ((M : Int), span l n, true) := by
        unfold spanR
        rw [if_pos ⟨h1, hpo.1 hq⟩, hl]
      rw [e0] at hR
      cases hR
      have HQ := hid hq
      clear h1 hl hpo hq hc1 e0
      go_enter Try.func45, Try.ntmps45
      go_wp2_with fail
      refine (i_IsValidNetwork M _ _ _ l _ (H.out.below (by go_grown)) (by omega)).mono ?_
      rintro e w1 ⟨rfl, hb1⟩
      rw [HG.out]
      obtain ⟨hc_w1, hf_w1⟩ := bcell hb1
      have hz1 := hb1.size
      simp only [World.size_alloc] at hz1
      have hz_w1_0 : w.heap.size < w1.heap.size := by omega
      have hz_w1_1 : w.heap.size + 1 < w1.heap.size := by omega
      have HB1 := hid (bstep (by go_grown) hb1 : Below w.heap.size w w1)
      have T1 := hid ((hb1.block (w.heap.size + 1) (by simp)).trans (last_new (w.alloc _) _ _ (by simp)))
      have A1 := hid ((hb1.block w.heap.size (by simp <;> omega)).trans (mid_new w _ _ _ rfl))
      clear hb1
      go_wp2_with fail
      refine (i_networkParts M _ _ _ l _ (H.out.below HB1.out) HG.out).mono ?_
      rintro e w2 ⟨a2, c2, rfl, hb2⟩
      rw [HQ.out]
      have hz_w2 := hb2.size
      have hz_w2_0 : w.heap.size < w2.heap.size := by omega
      have hz_w2_1 : w.heap.size + 1 < w2.heap.size := by omega
      have HB2 := hid (bstep HB1.out hb2 : Below w.heap.size w w2)
      have T2 := hid ((hb2.block (w.heap.size + 1) hz_w1_1).trans T1.out)
      have A2 := hid ((hb2.block w.heap.size hz_w1_0).trans A1.out)
      have m0 := cell_of_row w2 _ 0 _ _ (0, 0) A2.out
      have m1 := cell_of_row w2 _ 1 _ _ (0, 0) A2.out
      simp only [List.getElem?_toArray, List.getElem?_cons_zero, List.getElem?_cons_succ] at m0 m1
      clear hc_w1 hf_w1 hb2
      obtain ⟨i0, hi, hz0, hz1', hz2⟩ := info_parts Try.infoPipe
      have HI := hid hi
      have HZ := hid hz0
      have HZ1 := hid hz1'
      have HZ2 := hid hz2
      clear hi hz0 hz1' hz2
      have HX := hid (show SpIn w M a n c l w.heap.size (w.heap.size + 1) w2.heap.size (w2.heap.size + 1) 0 (some ⟨w2.heap.size, 0, none⟩) 0 0 ((w2.alloc (.cells #[] 65)).alloc (.cells #[.int .i64 M, .slice (some ⟨w2.heap.size, 0, none⟩) 0 0] 31)) from
        SpIn.start (heap_alloc_old (heap_alloc_old A2.out)) (heap_alloc_old (heap_alloc_old T2.out)) (last_new _ _ _ (by simp)) (OwnS.alloc (OwnS.lit0' rfl) _) (bstep HB2.out (by go_grown)) ⟨by omega, by omega, by omega, by omega, by omega⟩)
      clear A1 T1 A2 T2
      go_wp2
      go_loopg [24] n (fun g i wr => ∃ (k : Nat) (a' : Option Addr) (m c' : Nat), k ≤ n ∧ g = n - k ∧ i = .int .i64 k ∧ Hid (SpIn w M a n c l w.heap.size (w.heap.size + 1) w2.heap.size (w2.heap.size + 1) k a' m c' wr))
      case atStart => exact ⟨0, _, 0, 0, Nat.zero_le _, rfl, rfl, HX⟩
      case round =>
        obtain ⟨k, a', m, c', hk, rfl, rfl, hh⟩ := hrel
        have hlt0 := hh.out.lt
        clear HX
        by_cases hlt : k < n
        · obtain ⟨b0, off0, rfl, hbw, x0, x1, x2, x3⟩ := QAt.get (H.out.below hh.out.bel) k hlt
          have hkl : k < l.length := by have := HLN.out; omega
          have HP := hid (goodNet_pipe HG.out hkl)
          have HGS := hid (span_good HG.out (k := k) (by omega))
          have hm : m ≤ 10 := by
            have h1 := span_len l (k := k) (by omega)
            have h2 := OwnS.len hh.out.own
            omega
          obtain ⟨P, hP⟩ : ∃ P, pp l k = P := ⟨_, rfl⟩
          have HPP := hid hP
          rw [hP] at x0 x1 x2 x3 HP
          obtain ⟨t, ht⟩ : ∃ t : Nat, P.2.2.1 = t := ⟨P.2.2.1.toNat, by have := HP.out.2.2.1; omega⟩
          have ht1 : 1 ≤ t ∧ t ≤ M := by have := HP.out.2.2.1; omega
          have HT := hid ht
          rw [ht] at x2
          clear hP ht
          go_upto_region 7 with fail
          have HW := hid (hh.out.below (by go_grown : Below wr.heap.size wr (wr.alloc (.cells #[.int .i64 P.1, .int .i64 P.2.1, .int .i64 t, .int .i64 P.2.2.2] 65))))
          have PB := hid (last_new wr (.cells #[.int .i64 P.1, .int .i64 P.2.1, .int .i64 t, .int .i64 P.2.2.2] 65) _ rfl)
          have hzp : wr.heap.size < (wr.alloc (.cells #[.int .i64 P.1, .int .i64 P.2.1, .int .i64 t, .int .i64 P.2.2.2] 65)).heap.size := by simp
          generalize wr.alloc (.cells #[.int .i64 P.1, .int .i64 P.2.1, .int .i64 t, .int .i64 P.2.2.2] 65) = wp at *
          have hbp : Below w.heap.size w wp := HW.out.bel
          clear x0 x1 x2 x3 hbw hh hlt0
          have o0 : wp.cell? ⟨w2.heap.size + 1, 0, none⟩ = some (.int .i64 M) := by rw [cell_of_row wp _ _ _ _ (0, 0) HW.out.box]; rfl
          have o1 : wp.cell? ⟨w2.heap.size + 1, 1, none⟩ = some (.slice a' m c') := by rw [cell_of_row wp _ _ _ _ (0, 0) HW.out.box]; rfl
          have p1 : wp.cell? ⟨wr.heap.size, 1, none⟩ = some (.int .i64 P.2.1) := by rw [cell_of_row wp _ _ _ _ (0, 0) PB.out]; rfl
          have p2 : wp.cell? ⟨wr.heap.size, 2, none⟩ = some (.int .i64 t) := by rw [cell_of_row wp _ _ _ _ (0, 0) PB.out]; rfl
          have hX : w2.heap.size + 1 < wp.heap.size := HW.out.lt.2.2
          have t1 : (0 : Int) ≤ (t : Int) := by omega
          have t2 : (t : Int) < ((M + 1 : Nat) : Int) := by omega
          have t3 : t < M + 1 := by omega
          obtain ⟨fd, hfd⟩ : ∃ fd, far (span l k) 0 P.2.1 t = fd := ⟨_, rfl⟩
          have HD := hid (show (distL M (span l k) 0 P.2.1)[t]?.getD 0 = fd by rw [distL_at (by omega) (by omega)]; exact hfd)
          by_cases hp : 0 ≤ fd
          · have E := hid (span_yes (l := l) (k := k) (by rw [HPP.out, HT.out, hfd]; exact hp))
            have hd : (decide (fd < 0)) = false := by simpa using hp
            have hd2 : ¬ fd < 0 := by omega
            clear hfd
            go_cut [36] (fun s wx => s = .bool false ∧ Hid (Below wp.heap.size wp wx))
            case first =>
              first
                | (go_region_with (go_at_call 91; refine (i_distances M P.2.1 0 _ _ _ (span l k) _ ((OwnS.at qf_len HW.out.own).below (by go_grown)) HGS.out HP.out.2.1).mono ?_; rintro e w5 ⟨a5, c5, rfl, ho5, hb5⟩; obtain ⟨g5, rfl, -, -⟩ := own_some ho5 (by omega); have d5 := ho5.cell (k := t) t3; rw [HD.out] at d5; have z2 : w5.cell? ⟨wr.heap.size, 2, none⟩ = some (.int .i64 t) := (hb5.cell (p := ⟨wr.heap.size, 2, none⟩) hzp).trans p2))
                | fail
              all_goals (go_wp2_with fail; go_meet)
              all_goals refine ⟨rfl, ?_⟩
              all_goals exact bstep ((Below.refl _ _).drew : Below wp.heap.size wp wp.drew) (by assumption)
            case rest =>
              obtain ⟨rfl, hx⟩ := hcut
              have HV := hid (HW.out.below hx.out)
              clear HW hx o0 o1 p1 p2 hd hd2 hp
              go_wp2
              go_roundg (n - (k + 1))
              case rel => exact ⟨k + 1, a', m, c', by omega, rfl, by go_num, hid (HV.out.skip E.out)⟩
              case measure => omega
          · have E := hid (span_no (l := l) (k := k) (by rw [HPP.out, HT.out, hfd]; exact hp))
            have hd : (decide (fd < 0)) = true := by simpa using hp
            have hd2 : fd < 0 := by omega
            clear hfd
            go_cut [36] (fun s wx => s = .bool true ∧ Hid (Below wp.heap.size wp wx))
            case first =>
              first
                | (go_region_with (go_at_call 91; refine (i_distances M P.2.1 0 _ _ _ (span l k) _ ((OwnS.at qf_len HW.out.own).below (by go_grown)) HGS.out HP.out.2.1).mono ?_; rintro e w5 ⟨a5, c5, rfl, ho5, hb5⟩; obtain ⟨g5, rfl, -, -⟩ := own_some ho5 (by omega); have d5 := ho5.cell (k := t) t3; rw [HD.out] at d5; have z2 : w5.cell? ⟨wr.heap.size, 2, none⟩ = some (.int .i64 t) := (hb5.cell (p := ⟨wr.heap.size, 2, none⟩) hzp).trans p2))
                | fail
              all_goals (go_wp2_with fail; go_meet)
              all_goals refine ⟨rfl, ?_⟩
              all_goals exact bstep ((Below.refl _ _).drew : Below wp.heap.size wp wp.drew) (by assumption)
            case rest =>
              obtain ⟨rfl, hx⟩ := hcut
              have HV := hid (HW.out.below hx.out)
              have PV := hid ((hx.out.block _ hzp).trans PB.out)
              clear HW hx o0 o1 p1 p2 hd hd2 hp
              have o1 : wc.cell? ⟨w2.heap.size + 1, 1, none⟩ = some (.slice a' m c') := by rw [cell_of_row wc _ _ _ _ (0, 0) HV.out.box]; rfl
              have f1 := frozen_of_row wc _ 1 _ _ HV.out.box
              have q0 : wc.cell? ⟨wr.heap.size, 0, none⟩ = some (.int .i64 P.1) := by rw [cell_of_row wc _ _ _ _ (0, 0) PV.out]; rfl
              have q1 : wc.cell? ⟨wr.heap.size, 1, none⟩ = some (.int .i64 P.2.1) := by rw [cell_of_row wc _ _ _ _ (0, 0) PV.out]; rfl
              have q2 : wc.cell? ⟨wr.heap.size, 2, none⟩ = some (.int .i64 t) := by rw [cell_of_row wc _ _ _ _ (0, 0) PV.out]; rfl
              have q3 : wc.cell? ⟨wr.heap.size, 3, none⟩ = some (.int .i64 P.2.2.2) := by rw [cell_of_row wc _ _ _ _ (0, 0) PV.out]; rfl
              have hlv := HV.out.lt
              have HML := hid (OwnS.len HV.out.own)
              have HS1 := hid (show QAt (wc.alloc (.cells #[.int .i64 P.1, .int .i64 P.2.1, .int .i64 t, .int .i64 P.2.2.2] 65)) (some ⟨wc.heap.size, 0, none⟩) 1 [pp l k] from by
                rw [HPP.out]
                have := SAt.single (e := 65) wc P qf_len
                rw [show qf P = [.int .i64 P.1, .int .i64 P.2.1, .int .i64 t, .int .i64 P.2.2.2] by unfold qf; rw [HT.out]] at this
                exact this)
              go_wp2_with (at_builtin; refine wp_append_s _ rfl _ _ _ rfl 65 i0 (.agg #[.int .i64 0, .int .i64 0, .int .i64 0, .int .i64 0]) 32 Try.underlying29 HI.out HZ.out HZ1.out HZ2.out rfl (by decide) qf_len qf_one w2.heap.size _ (span l k) rfl (OwnS.alloc HV.out.own _) _ 1 1 [pp l k] rfl HS1.out (m + 1) (by have := HML.out; omega) (by omega) (by omega) (by simp; omega) ?_)
              intro a5 c5 w5 hown hgrow hblk
              have y6 := (hgrow.cell_far ⟨w2.heap.size + 1, 1, none⟩ (by simp; omega) (Ne.symm HV.out.ne))
              have g6 := (hgrow.frozen_far ⟨w2.heap.size + 1, 1, none⟩ (by simp; omega) (Ne.symm HV.out.ne))
              have HQ2 := hid (HV.out.put (by go_grown) hgrow hown (by simp only [World.size_alloc]; exact hblk) E.out)
              clear hown hgrow hblk
              go_wp2
              go_roundg (n - (k + 1))
              case rel => exact ⟨k + 1, _, _, _, by omega, rfl, by go_num, HQ2⟩
              case measure => omega
        · obtain rfl : k = n := by omega
          have o0 : wr.cell? ⟨w2.heap.size + 1, 0, none⟩ = some (.int .i64 M) := by rw [cell_of_row wr _ _ _ _ (0, 0) hh.out.box]; rfl
          have o1 : wr.cell? ⟨w2.heap.size + 1, 1, none⟩ = some (.slice a' m c') := by rw [cell_of_row wr _ _ _ _ (0, 0) hh.out.box]; rfl
          have y0 : wr.cell? ⟨w.heap.size + 1, 0, none⟩ = some (.int .i64 0) := by rw [cell_of_row wr _ _ _ _ (0, 0) hh.out.res]; rfl
          have y1 : wr.cell? ⟨w.heap.size + 1, 1, none⟩ = some (.slice none 0 0) := by rw [cell_of_row wr _ _ _ _ (0, 0) hh.out.res]; rfl
          have f0 := frozen_of_row wr _ 0 _ _ hh.out.res
          have f1 := frozen_of_row wr _ 1 _ _ hh.out.res
          have e7 := heap_setCell_same _ _ 1 _ _ (.slice a' m c') (heap_setCell_same _ _ 0 _ _ (.int .i64 M) hh.out.res)
          have u0 := cell_of_row _ _ 0 _ _ (0, 0) e7
          have u1 := cell_of_row _ _ 1 _ _ (0, 0) e7
          simp only [List.setIfInBounds_toArray, List.set_cons_zero, List.set_cons_succ, List.getElem?_toArray, List.getElem?_cons_zero, List.getElem?_cons_succ] at u0 u1
          clear e7
          go_wp2
          refine bodyPost_ret (v := .tuple #[.agg #[.int .i64 M, .slice a' m c'], .bool true]) (by simp [results, Try.results45, go_sem, *]) rfl ⟨_, _, _, rfl, ?_, ?_⟩
          · exact ((hh.out.own.far (by show w.heap.size + 1 < _; omega)).far (by show w.heap.size + 1 < _; omega)).mono (by omega)
          · exact ((hh.out.bel).setCell (by show w.heap.size ≤ w.heap.size + 1; omega) _).setCell (by show w.heap.size ≤ w.heap.size + 1; omega) _
    · rw [spanR_no (.inr (fun e => hq (hpo.2 e)))] at hR
      cases hR
      obtain ⟨q, hQ⟩ : ∃ q, cnt M l M = q := ⟨_, rfl⟩
      rw [hQ] at hq hc1
      have hq1 : 1 < q := by omega
      have HQ := hid hQ
      clear h1 hl hpo hq hc1 hQ
      go_enter Try.func45, Try.ntmps45
      go_wp2_with fail
      refine (i_IsValidNetwork M _ _ _ l _ (H.out.below (by go_grown)) (by omega)).mono ?_
      rintro e w1 ⟨rfl, hb1⟩
      rw [HG.out]
      obtain ⟨hc_w1, hf_w1⟩ := bcell hb1
      have hz1 := hb1.size
      simp only [World.size_alloc] at hz1
      have hz_w1_0 : w.heap.size < w1.heap.size := by omega
      have hz_w1_1 : w.heap.size + 1 < w1.heap.size := by omega
      have HB1 := hid (bstep (by go_grown) hb1 : Below w.heap.size w w1)
      have T1 := hid ((hb1.block (w.heap.size + 1) (by simp)).trans (last_new (w.alloc _) _ _ (by simp)))
      have A1 := hid ((hb1.block w.heap.size (by simp <;> omega)).trans (mid_new w _ _ _ rfl))
      clear hb1
      go_wp2_with fail
      refine (i_networkParts M _ _ _ l _ (H.out.below HB1.out) HG.out).mono ?_
      rintro e w2 ⟨a2, c2, rfl, hb2⟩
      rw [HQ.out]
      have hz_w2 := hb2.size
      have hz_w2_0 : w.heap.size < w2.heap.size := by omega
      have hz_w2_1 : w.heap.size + 1 < w2.heap.size := by omega
      have HB2 := hid (bstep HB1.out hb2 : Below w.heap.size w w2)
      have T2 := hid ((hb2.block (w.heap.size + 1) hz_w1_1).trans T1.out)
      have A2 := hid ((hb2.block w.heap.size hz_w1_0).trans A1.out)
      have m0 := cell_of_row w2 _ 0 _ _ (0, 0) A2.out
      have m1 := cell_of_row w2 _ 1 _ _ (0, 0) A2.out
      simp only [List.getElem?_toArray, List.getElem?_cons_zero, List.getElem?_cons_succ] at m0 m1
      clear hc_w1 hf_w1 hb2
      have y0 := cell_of_row w2 _ 0 _ _ (0, 0) T2.out
      have y1 := cell_of_row w2 _ 1 _ _ (0, 0) T2.out
      simp only [List.getElem?_toArray, List.getElem?_cons_zero, List.getElem?_cons_succ] at y0 y1
      have f0 := frozen_of_row w2 _ 0 _ _ T2.out
      have f1 := frozen_of_row w2 _ 1 _ _ T2.out
      have e7 := heap_setCell_same _ _ 1 _ _ (.slice none 0 0) (heap_setCell_same _ _ 0 _ _ (.int .i64 0) T2.out)
      have u0 := cell_of_row _ _ 0 _ _ (0, 0) e7
      have u1 := cell_of_row _ _ 1 _ _ (0, 0) e7
      simp only [List.setIfInBounds_toArray, List.set_cons_zero, List.set_cons_succ, List.getElem?_toArray, List.getElem?_cons_zero, List.getElem?_cons_succ] at u0 u1
      clear e7
      go_wp2
      refine bodyPost_ret (v := .tuple #[.agg #[.int .i64 0, .slice none 0 0], .bool false]) (by simp [results, Try.results45, go_sem, *]) rfl ⟨_, _, _, rfl, OwnS.nil _ _, ?_⟩
      exact (HB2.out.setCell (by show w.heap.size ≤ w.heap.size + 1; omega) _).setCell (by show w.heap.size ≤ w.heap.size + 1; omega) _

theorem i_SpanningTree' (N : Int) (a : Option Addr) (n c : Nat) (l : List Pip) (w : World) (h : QAt w a n l) (hn : n ≤ 1048576) (x : Int) (R : List Pip) (b : Bool) (hR : spanR N l = (x, R, b)) :
    Calls Try.prog 45 #[.agg #[.int .i64 N, .slice a n c]] w fun e w' => ∃ a' c', e = .returned (.tuple #[.agg #[.int .i64 x, .slice a' R.length c'], .bool b]) ∧ OwnQ w' w.heap.size (.slice a' R.length c') R ∧ Below w.heap.size w w' :=
  (i_SpanningTree N a n c l w h hn x R b hR).mono fun _ _ ⟨a', m, c', he, ho, hb⟩ => by
    have := OwnS.len ho
    subst this
    exact ⟨a', c', he, ho, hb⟩

end Go.Proofs.Ytheaagbffphdmaa
