/-
  Texts of this claim, joined: HeadI, TreeF, HeadF.
-/
import Derived.Test.YtlnhikhpkcgegaaLo10
import Derived.Test.YtlnhikhpkcgegaaLo14
/-
  Heads in a tree: the program's walk.
-/
set_option linter.unusedVariables false
set_option linter.unusedSimpArgs false
namespace Go.Proofs.Ytlnhikhpkcgegaa
open Go.RowKit

set_option maxRecDepth 100000 in
set_option maxHeartbeats 4000000 in
theorem i_headsOf (M s : Nat) (hd0 : Int) (a p : Option Addr) (n c d : Nat) (l : List Pip) (ds : List Int) (w : World) (h : QAt w a n l) (h' : IntsAt w p M ds) (hg : goodNet M l = true) (hs : 1 ≤ s ∧ s ≤ M) (hd : ∀ x ∈ ds, 0 ≤ x ∧ x ≤ 1000) (ht : treeB M l = true) (hh0 : 0 ≤ hd0 ∧ hd0 ≤ 100000000000) :
    Calls Try.prog 102 #[.agg #[.int .i64 M, .slice a n c], .int .i64 s, .slice p M d, .int .i64 hd0] w fun e w' => ∃ a' c', e = .returned (.slice a' M c') ∧ OwnI w' w.heap.size (.slice a' M c') (headL l (tflows M l s ds n) s hd0 M) ∧ Below w.heap.size w w' := by
  obtain ⟨i0, hi, hz0, hz1', hz2⟩ := info_parts Try.infoInt
  have HI := hid hi
  have HZ := hid hz0
  have HZ1 := hid hz1'
  have HZ2 := hid hz2
  clear hi hz0 hz1' hz2
  have hM : M ≤ 8 := by have := (goodNet_get hg).1; omega
  have hM1 : 1 ≤ M := by omega
  have hn : n ≤ 10 := by have := (goodNet_get hg).2.1; have := h.1; omega
  have hln := h.1
  have HLN := hid h.1
  have H := hid h
  have H' := hid h'
  have HG := hid hg
  have HD := hid hd
  have HT := hid ht
  have HF := hid (tflows_good (n := n) (l := l) (s := (s : Int)) hM h'.1 hd)
  obtain ⟨fs, hfs⟩ : ∃ fs, tflows M l s ds n = fs := ⟨_, rfl⟩
  have HFS := hid hfs
  rw [hfs] at HF ⊢
  clear h h' hg hd ht hln hfs
  have M0 : (0 : Int) ≤ (M : Int) := by omega
  have M8 : (M : Int) ≤ 8 := by omega
  go_enter Try.func102, Try.ntmps102
  go_upto_region 1 with fail
  have BA := hid (by go_grown : Below w.heap.size w (w.alloc (.cells #[.int .i64 M, .slice a n c] 26)))
  have N0 := hid (cell_of_row _ _ 0 _ _ (0, 0) (heap_alloc_new w (.cells #[.int .i64 M, .slice a n c] 26)))
  have N1 := hid (cell_of_row _ _ 1 _ _ (0, 0) (heap_alloc_new w (.cells #[.int .i64 M, .slice a n c] 26)))
  have hzA : w.heap.size < (w.alloc (.cells #[.int .i64 M, .slice a n c] 26)).heap.size := by simp
  have n0 := N0.out
  have n1 := N1.out
  simp only [List.getElem?_toArray, List.getElem?_cons_zero, List.getElem?_cons_succ] at n0 n1
  generalize w.alloc (.cells #[.int .i64 M, .slice a n c] 26) = wA at *
  have KA := hid (show ∀ wx, Below wA.heap.size wA wx → (wx.cell? ⟨w.heap.size, 0, none⟩ = some (.int .i64 M) ∧ wx.cell? ⟨w.heap.size, 1, none⟩ = some (.slice a n c)) from fun wx hb => ⟨(hb.cell (p := ⟨w.heap.size, 0, none⟩) hzA).trans n0, (hb.cell (p := ⟨w.heap.size, 1, none⟩) hzA).trans n1⟩)
  have hx0 : ∀ W : World, ∃ w', (Instr.makeSlice 27 (.int .i64 (M : Int)) (.int .i64 (M : Int))).run Try.prog W = .ok (.slice (some ⟨W.heap.size, 0, none⟩) M M) w' ∧ OwnI w' W.heap.size (.slice (some ⟨W.heap.size, 0, none⟩) M M) (List.replicate M 0) ∧ W.grownBy w' none := fun W => by
    obtain ⟨w', a1, b1, c1⟩ := run_make_full (P := Try.prog) W W.heap.size 27 3 i0 (.int .i64 0) 1 Try.underlying27 HI.out HZ.out HZ1.out .i64 .i64 M (by rw [HZ2.out]; omega) (by unfold maxLen; omega) (Nat.le_refl _)
    rw [Nat.mul_one] at b1
    exact ⟨w', a1, OwnI.made b1, c1⟩
  obtain ⟨mk, hmk⟩ : ∃ mk : World → World, ∀ W, (Instr.makeSlice 27 (.int .i64 (M : Int)) (.int .i64 (M : Int))).run Try.prog W = .ok (.slice (some ⟨W.heap.size, 0, none⟩) M M) (mk W) ∧ OwnI (mk W) W.heap.size (.slice (some ⟨W.heap.size, 0, none⟩) M M) (List.replicate M 0) ∧ W.grownBy (mk W) none :=
    ⟨fun W => Classical.choose (hx0 W), fun W => Classical.choose_spec (hx0 W)⟩
  have RM := fun W => (hmk W).1
  have HMK := hid fun W => (hmk W).2
  have HBM := hid (show ∀ W, Below wA.heap.size wA W → Below wA.heap.size wA (mk W) from fun W hb => hb.grown (hmk W).2.2 hb.size (fun k hk => by simp at hk))
  have HBS := hid (show ∀ W, Below W.heap.size W (mk W) from fun W => below_of_grown (hmk W).2.2 (Nat.le_refl _) (fun k hk => by simp at hk))
  clear hx0 hmk
  go_cut [9, 10] (fun s9 s10 wx => ∃ (a1 : Option Addr) (c1 g2 : Nat), s9 = .slice a1 n c1 ∧ s10 = .slice (some ⟨g2, 0, none⟩) M M ∧ Hid (OwnI wx wA.heap.size (.slice a1 n c1) fs ∧ OwnI wx wA.heap.size (.slice (some ⟨g2, 0, none⟩) M M) (List.replicate M 0) ∧ Below wA.heap.size wA wx ∧ Value.ownBlock (.slice a1 n c1) ≠ some g2))
  case first =>
    go_region_held3 (fun w' => (w'.cell? ⟨w.heap.size, 0, none⟩ = some (.int .i64 M) ∧ w'.cell? ⟨w.heap.size, 1, none⟩ = some (.slice a n c))) (first | go_keep | exact KA.out _ (by first | assumption | exact HBM.out _ (by first | assumption | go_grown) | go_grown))
      (first | (go_at_call 66; refine (i_treeFlows M s _ _ n _ _ l ds _ (H.out.below (bstep BA.out (by first | exact HBM.out _ (by go_grown) | go_grown))) (H'.out.below (bstep BA.out (by first | exact HBM.out _ (by go_grown) | go_grown))) HG.out (by omega) HD.out).mono ?_; rintro e w5 ⟨a1, c1, rfl, ho1, hb1⟩; have hb5 : Below wA.heap.size wA w5 := (by first | exact bstep (HBM.out _ (by go_grown)) hb1 | exact bstep (by go_grown) hb1)))
    all_goals (go_wp2_with fail; go_meet)
    all_goals rw [HFS.out] at ho1
    all_goals refine ⟨a1, c1, _, rfl, rfl, ?_⟩
    all_goals first
      | exact hid ⟨(ho1.below (HBS.out _)).mono (Nat.le_refl _), (HMK.out _).1.mono hb5.size, HBM.out _ hb5, fun e => by have := (ho1.lt _ e).2; omega⟩
      | exact hid ⟨ho1.mono (HBM.out _ ((Below.refl _ _).drew)).size, ((HMK.out wA.drew).1.below hb1).mono (Nat.le_refl _), hb5, fun e => by have h1 := (ho1.lt _ e).1; have h2 : wA.drew.heap.size < (mk wA.drew).heap.size := ((HMK.out wA.drew).1.lt _ rfl).2; have h3 : wA.drew.heap.size = wA.heap.size := rfl; omega⟩
  case rest =>
    obtain ⟨a1, c1, g2, rfl, rfl, hx⟩ := hcut
    obtain ⟨n0', n1'⟩ := KA.out _ hx.out.2.2.1
    have hzc : w.heap.size < wc.heap.size := World.block_lt_of_cell? wc _ n0'
    have hg2 := hx.out.2.1.lt g2 rfl
    obtain ⟨s1, hs1⟩ : ∃ s1 : Nat, (s : Int) - 1 = s1 := ⟨s - 1, by omega⟩
    have hws : IntKind.i64.wrap (s1 : Int) = (s1 : Int) := IntWalk.i64_in _ (by omega)
    have q0 : (0 : Int) ≤ (s1 : Int) := by omega
    have q1 : (s1 : Int) < (M : Int) := by omega
    have q2 : s1 < M := by omega
    clear n0 n1 RM HMK HBM HBS
    go_wp2_with fail
    refine (i_distances M s 0 _ _ _ l _ (H.out.below (bstep BA.out hx.out.2.2.1)) HG.out (by omega)).mono ?_
    rintro e w2 ⟨ad, cd, rfl, hod, hb2⟩
    obtain ⟨gd, rfl, hgd1, hgd2⟩ := own_some hod (by omega)
    have hcell := (hx.out.2.1.below hb2).cell (k := s1) q2
    have hfr := (hx.out.2.1.below hb2).frozen (k := s1)
    have HX := hid (show OwnI w2 wA.heap.size (.slice a1 n c1) fs ∧ OwnI w2 wA.heap.size (.slice (some ⟨g2, 0, none⟩) M M) (List.replicate M 0) ∧ Below wA.heap.size wA w2 ∧ Value.ownBlock (.slice a1 n c1) ≠ some g2 ∧ OwnI w2 wA.heap.size (.slice (some ⟨gd, 0, none⟩) (M + 1) cd) (distL M l 0 s) ∧ gd ≠ g2 from ⟨hx.out.1.below hb2, hx.out.2.1.below hb2, bstep hx.out.2.2.1 hb2, hx.out.2.2.2, hod.mono hx.out.2.2.1.size, by omega⟩)
    obtain ⟨n0, n1⟩ := KA.out _ HX.out.2.2.1
    have SS := hid (HX.out.2.1.set (k := s1) hd0)
    have HP0 := hid (HeadP.start (l := l) (fs := fs) (head := hd0) (out := List.replicate M 0) (s := (s : Int)) HG.out HT.out (by omega) (by simp))
    rw [show (s : Int).toNat - 1 = s1 by omega] at HP0
    have HBD := hid (show ∀ x ∈ (List.replicate M (0 : Int)).set s1 hd0, -100000000000 ≤ x ∧ x ≤ 100000000000 from fun x hx => by
      rcases List.mem_or_eq_of_mem_set hx with h | h
      · have := List.eq_of_mem_replicate h; omega
      · omega)
    clear hx n0' n1' hod hb2
    go_wp2
    go_loopg [33] M (fun g i wr => ∃ (st : Nat) (out : List Int), st ≤ M ∧ g = M - st ∧ i = .int .i64 st ∧ Hid (OwnI wr wA.heap.size (.slice (some ⟨g2, 0, none⟩) M M) out ∧ w2.grownBy wr (some g2)) ∧ Hid (HeadP M l s fs hd0 st 0 out) ∧ Hid (∀ x ∈ out, -(100000000000 + 5760000000 * (st : Int)) ≤ x ∧ x ≤ 100000000000 + 5760000000 * (st : Int)))
    case atStart => exact ⟨0, _, Nat.zero_le _, rfl, rfl, hid ⟨SS.out.1, SS.out.2⟩, HP0, hid (fun x hx => by have := HBD.out x hx; omega)⟩
    case round =>
      obtain ⟨st, out, hst, rfl, rfl, hW, hP, hB⟩ := hrel
      clear SS HP0 HBD n0 n1 hcell hfr
      have hbw1 : Below wA.heap.size wA wr := HX.out.2.2.1.grown hW.out.2 HX.out.2.2.1.size (fun k hk => by simp at hk; omega)
      obtain ⟨n0, n1⟩ := KA.out _ hbw1
      by_cases hlt : st < M
      · go_wp2
        go_loopg [39] n (fun g i wr => ∃ (k : Nat) (out : List Int), k ≤ n ∧ g = n - k ∧ i = .int .i64 k ∧ Hid (OwnI wr wA.heap.size (.slice (some ⟨g2, 0, none⟩) M M) out ∧ w2.grownBy wr (some g2)) ∧ Hid (HeadP M l s fs hd0 st k out) ∧ Hid (∀ x ∈ out, -(100000000000 + 5760000000 * (st : Int) + 576000000 * (k : Int)) ≤ x ∧ x ≤ 100000000000 + 5760000000 * (st : Int) + 576000000 * (k : Int)))
        case atStart => exact ⟨0, out, Nat.zero_le _, rfl, rfl, hW, hP, hid (fun x hx => by have := hB.out x hx; omega)⟩
        case round =>
          obtain ⟨k, out', hk, rfl, rfl, hW', hP', hB'⟩ := hrel
          clear n0 n1
          have hbw2 : Below wA.heap.size wA wr := HX.out.2.2.1.grown hW'.out.2 HX.out.2.2.1.size (fun k hk => by simp at hk; omega)
          obtain ⟨n0, n1⟩ := KA.out _ hbw2
          have hz0 : w.heap.size < wr.heap.size := World.block_lt_of_cell? wr _ n0
          by_cases hlt2 : k < n
          · obtain ⟨b0, off0, rfl, hbw, x0, x1, x2, x3⟩ := QAt.get (H.out.below (bstep BA.out hbw2)) k hlt2
            have hkl : k < l.length := by have := HLN.out; omega
            have HPI := hid (goodNet_pipe HG.out hkl)
            have HLV := hid (tree_lev HG.out HT.out (show 1 ≤ (s : Int) ∧ (s : Int) ≤ M by omega) hkl)
            have HKL := hid hkl
            obtain ⟨F, hF⟩ : ∃ F : Nat, (pp l k).2.1 = F := ⟨(pp l k).2.1.toNat, by have := HPI.out.2.1; omega⟩
            obtain ⟨T, hT⟩ : ∃ T : Nat, (pp l k).2.2.1 = T := ⟨(pp l k).2.2.1.toNat, by have := HPI.out.2.2.1; omega⟩
            have hF1 : 1 ≤ F ∧ F ≤ M := by have := HPI.out.2.1; omega
            have hT1 : 1 ≤ T ∧ T ≤ M := by have := HPI.out.2.2.1; omega
            have hFT : ¬ F = T := by have := HPI.out.2.2.2.1; omega
            obtain ⟨f1, hf1⟩ : ∃ f1 : Nat, (F : Int) - 1 = f1 := ⟨F - 1, by omega⟩
            obtain ⟨t1, ht1⟩ : ∃ t1 : Nat, (T : Int) - 1 = t1 := ⟨T - 1, by omega⟩
            obtain ⟨yl, hyl⟩ : ∃ yl, loss l fs k = yl := ⟨_, rfl⟩
            have hyb : -576000000 ≤ yl ∧ yl ≤ 576000000 := by
              have := sgl_fit (v := (F : Int)) HG.out (show goodFl l.length fs = true by rw [HLN.out]; exact HF.out) hkl
              rw [sgl_from hF.symm, hyl] at this
              exact this
            have HYL := hid hyl
            have HFF := hid hF
            have HTT := hid hT
            rw [hF] at x1
            rw [hT] at x2
            rw [hF, hT] at HLV
            have HOW := hid (HX.out.1.kept hW'.out.2 (.inr HX.out.2.2.2.1))
            have HDW := hid (HX.out.2.2.2.2.1.kept hW'.out.2 (.inr (fun e => HX.out.2.2.2.2.2 (by simpa [Value.ownBlock] using e))))
            clear hF hT hyl hkl
            go_wp2_with fail
            refine (i_lossOf _ _ _ _ _ _ k l fs _ (H.out.below (bstep BA.out (bstep hbw2 (by go_grown)))) (HOW.out.at.below (by go_grown)) HG.out HF.out hlt2).mono ?_
            rintro e w5 ⟨rfl, hb5⟩
            rw [HYL.out]
            have B5 := hid (bstep (by go_grown) hb5 : Below wr.heap.size wr w5)
            have pF : w5.cell? ⟨wr.heap.size, 1, none⟩ = some (.int .i64 F) := by rw [hb5.cell (p := ⟨wr.heap.size, 1, none⟩) (by simp), cell_of_row _ _ _ _ _ (0, 0) (heap_alloc_new _ _)]; rfl
            have pT : w5.cell? ⟨wr.heap.size, 2, none⟩ = some (.int .i64 T) := by rw [hb5.cell (p := ⟨wr.heap.size, 2, none⟩) (by simp), cell_of_row _ _ _ _ _ (0, 0) (heap_alloc_new _ _)]; rfl
            have hzp : wr.heap.size < w5.heap.size := World.block_lt_of_cell? w5 _ pF
            have W5 := hid (show OwnI w5 wA.heap.size (.slice (some ⟨g2, 0, none⟩) M M) out' ∧ w2.grownBy w5 (some g2) from ⟨hW'.out.1.below B5.out, grownBy_trans hW'.out.2 (grown_of_below B5.out _)⟩)
            obtain ⟨dF, hdF⟩ : ∃ dF, far l 0 s F = dF := ⟨_, rfl⟩
            obtain ⟨dT, hdT⟩ : ∃ dT, far l 0 s T = dT := ⟨_, rfl⟩
            have cF := (HDW.out.below B5.out).cell (k := F) (by omega)
            have cT := (HDW.out.below B5.out).cell (k := T) (by omega)
            rw [distL_at (by omega) (by omega), hdF] at cF
            rw [distL_at (by omega) (by omega), hdT] at cT
            obtain ⟨vF, hvF⟩ : ∃ vF, out'[f1]?.getD 0 = vF := ⟨_, rfl⟩
            obtain ⟨vT, hvT⟩ : ∃ vT, out'[t1]?.getD 0 = vT := ⟨_, rfl⟩
            have oF := W5.out.1.cell (k := f1) (by omega)
            have oT := W5.out.1.cell (k := t1) (by omega)
            have zF := W5.out.1.frozen (k := f1)
            have zT := W5.out.1.frozen (k := t1)
            have bF := hB'.out _ (getD_mem out' f1 (by have := hP'.out.len; omega))
            have bT := hB'.out _ (getD_mem out' t1 (by have := hP'.out.len; omega))
            rw [hvF] at oF bF
            rw [hvT] at oT bT
            rw [hdF, hdT] at HLV
            have HDF := hid hdF
            have HDT := hid hdT
            have HVF := hid hvF
            have HVT := hid hvT
            have hg5 : g2 < w5.heap.size := (W5.out.1.lt _ rfl).2
            have r0 : (0 : Int) ≤ (F : Int) := by omega
            have r1 : (F : Int) < ((M + 1 : Nat) : Int) := by omega
            have r2 : (0 : Int) ≤ (T : Int) := by omega
            have r3 : (T : Int) < ((M + 1 : Nat) : Int) := by omega
            have r4 : (0 : Int) ≤ (f1 : Int) := by omega
            have r5 : (f1 : Int) < (M : Int) := by omega
            have r6 : (0 : Int) ≤ (t1 : Int) := by omega
            have r7 : (t1 : Int) < (M : Int) := by omega
            have r8 : ¬ f1 = t1 := by omega
            have r9 : ¬ t1 = f1 := by omega
            have u1 : IntKind.i64.wrap (f1 : Int) = (f1 : Int) := IntWalk.i64_in _ (by omega)
            have u2 : IntKind.i64.wrap (t1 : Int) = (t1 : Int) := IntWalk.i64_in _ (by omega)
            have u3 := IntWalk.i64_in (vF - yl) (by omega)
            have u4 := IntWalk.i64_in (vT + yl) (by omega)
            have eF : (F : Int).toNat - 1 = f1 := by omega
            have eT : (T : Int).toNat - 1 = t1 := by omega
            have EF := hid eF
            have ET := hid eT
            clear hb5 hdF hdT hvF hvT x0 x1 x2 x3 hbw n0 n1 eF eT
            by_cases cA : dF = st ∧ dT = st + 1
            · have HQ := hid (HeadP.put (y := vF - yl) HG.out HT.out (show 1 ≤ (s : Int) ∧ (s : Int) ≤ M by omega) HKL.out hP'.out (v := (T : Int)) (by omega) (by rw [HDT.out]; omega) (by
                rcases HLV.out with ⟨-, h9⟩ | ⟨h9, -⟩
                · exact h9
                · omega) (by
                unfold Agree
                rw [HFF.out, HTT.out, ET.out, EF.out, List.getElem?_set_self (by have := hP'.out.len; omega), List.getElem?_set_ne (by omega), HVF.out, HYL.out]
                rfl))
              rw [ET.out] at HQ
              have a1 : dF ≤ st := by omega
              have a2 : (st : Int) ≤ dF := by omega
              have a3 : dT ≤ (st : Int) + 1 := by omega
              have a4 : (st : Int) + 1 ≤ dT := by omega
              clear cA
              go_upto_region 12 with fail
              first
                | (go_region_law fail)
                | fail
              all_goals
                have SS := hid (W5.out.1.set (k := t1) (vF - yl))
                go_wp2
                go_roundg (n - (k + 1))
                case rel =>
                  refine ⟨k + 1, out'.set t1 (vF - yl), by omega, rfl, by go_num, hid ⟨SS.out.1, ?_⟩, HQ, hid (fun x hx => ?_)⟩
                  · exact grownBy_trans (grownBy_trans W5.out.2 SS.out.2) (grown_of_below ((Below.refl _ _).drew) _)
                  · rcases List.mem_or_eq_of_mem_set hx with h9 | h9
                    · have := hB'.out x h9; omega
                    · omega
                case measure => omega
            · by_cases cB : dT = st ∧ dF = st + 1
              · have HQ := hid (HeadP.put (y := vT + yl) HG.out HT.out (show 1 ≤ (s : Int) ∧ (s : Int) ≤ M by omega) HKL.out hP'.out (v := (F : Int)) (by omega) (by rw [HDF.out]; omega) (by
                  rcases HLV.out with ⟨h9, -⟩ | ⟨-, h9⟩
                  · omega
                  · exact h9) (by
                  unfold Agree
                  rw [HFF.out, HTT.out, ET.out, EF.out, List.getElem?_set_self (by have := hP'.out.len; omega), List.getElem?_set_ne (by omega), HVT.out, HYL.out]
                  show vT = vT + yl - yl
                  omega))
                rw [EF.out] at HQ
                have a1 : dT ≤ st := by omega
                have a2 : (st : Int) ≤ dT := by omega
                have a3 : dF ≤ (st : Int) + 1 := by omega
                have a4 : (st : Int) + 1 ≤ dF := by omega
                have a5 : ¬ dF = st := by omega
                clear cA cB
                go_upto_region 14 with fail
                first
                  | (go_region_law fail)
                  | fail
                all_goals
                  have SS := hid (W5.out.1.set (k := f1) (vT + yl))
                  go_wp2
                  go_roundg (n - (k + 1))
                  case rel =>
                    refine ⟨k + 1, out'.set f1 (vT + yl), by omega, rfl, by go_num, hid ⟨SS.out.1, ?_⟩, HQ, hid (fun x hx => ?_)⟩
                    · exact grownBy_trans (grownBy_trans W5.out.2 SS.out.2) (grown_of_below ((Below.refl _ _).drew) _)
                    · rcases List.mem_or_eq_of_mem_set hx with h9 | h9
                      · have := hB'.out x h9; omega
                      · omega
                  case measure => omega
              · have HQ := hid (HeadP.skip HG.out HT.out (show 1 ≤ (s : Int) ∧ (s : Int) ≤ M by omega) HKL.out hP'.out (by rw [HFF.out, HTT.out, HDF.out, HDT.out]; exact cA) (by rw [HFF.out, HTT.out, HDF.out, HDT.out]; exact cB))
                by_cases cC : dF = st
                · have a1 : dF ≤ st := by omega
                  have a2 : (st : Int) ≤ dF := by omega
                  have a3 : (dT == (st : Int) + 1) = false := by simp; omega
                  have a4 : (dT == (st : Int)) = false := by
                    have := HLV.out
                    simp
                    omega
                  clear cA cB cC
                  go_wp2
                  go_roundg (n - (k + 1))
                  case rel => exact ⟨k + 1, out', by omega, rfl, by go_num, W5, HQ, hid (fun x hx => by have := hB'.out x hx; omega)⟩
                  case measure => omega
                · have a3 : (dF == (st : Int)) = false := by simp; omega
                  by_cases cD : dT = st
                  · have a1 : dT ≤ st := by omega
                    have a2 : (st : Int) ≤ dT := by omega
                    have a4 : (dF == (st : Int) + 1) = false := by simp; omega
                    clear cA cB cC cD
                    go_wp2
                    go_roundg (n - (k + 1))
                    case rel => exact ⟨k + 1, out', by omega, rfl, by go_num, W5, HQ, hid (fun x hx => by have := hB'.out x hx; omega)⟩
                    case measure => omega
                  · have a4 : (dT == (st : Int)) = false := by simp; omega
                    clear cA cB cC cD
                    go_wp2
                    go_roundg (n - (k + 1))
                    case rel => exact ⟨k + 1, out', by omega, rfl, by go_num, W5, HQ, hid (fun x hx => by have := hB'.out x hx; omega)⟩
                    case measure => omega
          · obtain rfl : k = n := by omega
            go_wp2
            go_roundg (M - (st + 1))
            case rel => exact ⟨st + 1, out', by omega, rfl, by go_num, hW', hid (HeadP.next (HLN.out ▸ hP'.out)), hid (fun x hx => by have := hB'.out x hx; omega)⟩
            case measure => omega
      · obtain rfl : st = M := by omega
        have E := hid (HeadP.done HG.out HT.out (by omega) hP.out)
        go_wp2
        go_ret
        refine ⟨_, _, rfl, ?_, bstep BA.out hbw1⟩
        rw [← E.out]
        exact hW.out.1.mono (by omega)

end Go.Proofs.Ytlnhikhpkcgegaa

/-
  TreeFlows, in the program and in the reference.
-/
set_option linter.unusedVariables false
set_option linter.unusedSimpArgs false
namespace Go.Proofs.Ytlnhikhpkcgegaa
open Go.RowKit

/-- A network is a tree, a source and demands are valid. -/
noncomputable def canT (N : Int) (l : List Pip) (s : Int) (ds : List Int) : Bool := (goodNet N l && inR s 1 N) && goodDem N ds && treeB N l
theorem canT_iff {N : Int} {l : List Pip} {s : Int} {ds : List Int} (h : canT N l s ds = true) : goodNet N l = true ∧ (1 ≤ s ∧ s ≤ N) ∧ ((ds.length : Int) = N ∧ ∀ x ∈ ds, 0 ≤ x ∧ x ≤ 1000) ∧ treeB N l = true := by
  unfold canT at h
  simp only [Bool.and_eq_true] at h
  exact ⟨h.1.1.1, inR_iff.1 h.1.1.2, goodDem_iff.1 h.1.2, h.2⟩

theorem i_canTree (N s : Int) (a p : Option Addr) (n c m d : Nat) (l : List Pip) (ds : List Int) (w : World) (h : QAt w a n l) (h' : IntsAt w p m ds) (hn : n ≤ 1048576) (hm : m ≤ 1048576) :
    Calls Try.prog 65 #[.agg #[.int .i64 N, .slice a n c], .int .i64 s, .slice p m d] w fun e w' => e = .returned (.bool (canT N l s ds)) ∧ Below w.heap.size w w' := by
  have H := hid h
  have H' := hid h'
  clear h h'
  cases h1 : goodNet N l && inR s 1 N
  · have H1 := hid h1
    have E := hid (show false = canT N l s ds by simp [canT, h1])
    clear h1
    go_enter Try.func65, Try.ntmps65
    go_wp2_with fail
    refine (i_hasNode _ s _ _ _ l _ (H.out.below (by go_grown)) hn).mono ?_
    rintro e w1 ⟨rfl, hb1⟩
    rw [H1.out]
    obtain ⟨hc_w1, hf_w1⟩ := bcell hb1
    have hz_w1_0 : w.heap.size < w1.heap.size := by have := hb1.size; simp only [World.size_alloc] at this; omega
    have HB1 := hid (bstep (by go_grown) hb1 : Below w.heap.size w w1)
    go_wp2
    go_ret
    exact ⟨ret_bool E.out, HB1.out⟩
  · have H1 := hid h1
    cases h2 : goodDem N ds
    · have H2 := hid h2
      have E := hid (show false = canT N l s ds by simp [canT, h2])
      clear h1 h2
      go_enter Try.func65, Try.ntmps65
      go_wp2_with fail
      refine (i_hasNode _ s _ _ _ l _ (H.out.below (by go_grown)) hn).mono ?_
      rintro e w1 ⟨rfl, hb1⟩
      rw [H1.out]
      obtain ⟨hc_w1, hf_w1⟩ := bcell hb1
      have hz_w1_0 : w.heap.size < w1.heap.size := by have := hb1.size; simp only [World.size_alloc] at this; omega
      have HB1 := hid (bstep (by go_grown) hb1 : Below w.heap.size w w1)
      go_wp2_with fail
      refine (i_areDemands _ _ _ _ _ _ _ ds _ (H'.out.below HB1.out) hm).mono ?_
      rintro e w2 ⟨rfl, hb2⟩
      rw [H2.out]
      obtain ⟨hc_w2, hf_w2⟩ := bcell hb2
      have hz_w2_0 : w.heap.size < w2.heap.size := by have := hb2.size; omega
      have HB2 := hid (bstep HB1.out hb2 : Below w.heap.size w w2)
      go_wp2
      go_ret
      exact ⟨ret_bool E.out, HB2.out⟩
    · have H2 := hid h2
      obtain ⟨g1, g2⟩ := (Bool.and_eq_true _ _).mp h1
      have hN := (goodNet_get g1).1
      obtain ⟨M, rfl⟩ : ∃ M : Nat, N = M := ⟨N.toNat, by omega⟩
      have HG := hid g1
      have E := hid (show treeB M l = canT M l s ds by simp [canT, h1, h2])
      obtain ⟨z, hz⟩ : ∃ z, treeB M l = z := ⟨_, rfl⟩
      rw [hz] at E
      have H3 := hid hz
      clear h1 h2 g1 g2 hz
      go_enter Try.func65, Try.ntmps65
      go_wp2_with fail
      refine (i_hasNode _ s _ _ _ l _ (H.out.below (by go_grown)) hn).mono ?_
      rintro e w1 ⟨rfl, hb1⟩
      rw [H1.out]
      obtain ⟨hc_w1, hf_w1⟩ := bcell hb1
      have hz_w1_0 : w.heap.size < w1.heap.size := by have := hb1.size; simp only [World.size_alloc] at this; omega
      have HB1 := hid (bstep (by go_grown) hb1 : Below w.heap.size w w1)
      go_wp2_with fail
      refine (i_areDemands _ _ _ _ _ _ _ ds _ (H'.out.below HB1.out) hm).mono ?_
      rintro e w2 ⟨rfl, hb2⟩
      rw [H2.out]
      obtain ⟨hc_w2, hf_w2⟩ := bcell hb2
      have hz_w2_0 : w.heap.size < w2.heap.size := by have := hb2.size; omega
      have HB2 := hid (bstep HB1.out hb2 : Below w.heap.size w w2)
      go_wp2_with fail
      refine (i_isTree _ _ _ _ l _ (H.out.below HB2.out) HG.out).mono ?_
      rintro e w3 ⟨rfl, hb3⟩
      rw [H3.out]
      obtain ⟨hc_w3, hf_w3⟩ := bcell hb3
      have hz_w3_0 : w.heap.size < w3.heap.size := by have := hb3.size; omega
      have HB3 := hid (bstep HB2.out hb3 : Below w.heap.size w w3)
      go_wp2
      go_ret
      exact ⟨ret_bool E.out, HB3.out⟩

/-- What TreeFlows returns. -/
noncomputable def treesR (N : Int) (l : List Pip) (s : Int) (ds : List Int) : List Int × Bool := if canT N l s ds = true then (tflows N.toNat l s ds l.length, true) else ([], false)
theorem treesR_len {N : Int} {l : List Pip} {s : Int} {ds R : List Int} {b : Bool} (h : treesR N l s ds = (R, b)) : R.length ≤ 1000 := by
  unfold treesR at h
  split at h
  · rename_i h1
    cases h
    rw [tflows_len]
    have := (goodNet_get (canT_iff h1).1).2.1
    omega
  · cases h
    simp

set_option maxRecDepth 100000 in
set_option maxHeartbeats 2000000 in
theorem i_TreeFlows (N s : Int) (a p : Option Addr) (n c m d : Nat) (l : List Pip) (ds : List Int) (w : World) (h : QAt w a n l) (h' : IntsAt w p m ds) (hn : n ≤ 1048576) (hm : m ≤ 1048576) (R : List Int) (b : Bool) (hR : treesR N l s ds = (R, b)) :
    Calls Try.prog 10 #[.agg #[.int .i64 N, .slice a n c], .int .i64 s, .slice p m d] w fun e w' => ∃ a' c', e = .returned (.tuple #[.slice a' R.length c', .bool b]) ∧ OwnI w' w.heap.size (.slice a' R.length c') R ∧ Below w.heap.size w w' := by
  have hl := h.1
  have hl' := h'.1
  have H := hid h
  have H' := hid h'
  clear h h'
  cases h1 : canT N l s ds
  · have e0 : treesR N l s ds = ([], false) := by simp [treesR, h1]
    rw [e0] at hR
    cases hR
    have H1 := hid h1
    clear h1 hl hl'
    go_enter Try.func10, Try.ntmps10
    go_wp2_with fail
    refine (i_canTree _ _ _ _ _ _ _ _ l ds _ (H.out.below (by go_grown)) (H'.out.below (by go_grown)) hn hm).mono ?_
    rintro e w1 ⟨rfl, hb1⟩
    rw [H1.out]
    obtain ⟨hc_w1, hf_w1⟩ := bcell hb1
    have hz_w1_0 : w.heap.size < w1.heap.size := by have := hb1.size; simp only [World.size_alloc] at this; omega
    have HB1 := hid (bstep (by go_grown) hb1 : Below w.heap.size w w1)
    go_wp2
    go_ret2
    exact ⟨_, _, rfl, OwnI.nil _ _, HB1.out⟩
  · obtain ⟨g1, g2, g3, g4⟩ := canT_iff h1
    have hN := (goodNet_get g1).1
    obtain ⟨M, rfl⟩ : ∃ M : Nat, N = M := ⟨N.toNat, by omega⟩
    have hmM : m = M := by omega
    subst hmM
    have e0 : treesR m l s ds = (tflows m l s ds n, true) := by
      unfold treesR
      rw [if_pos h1, hl]
      simp
    rw [e0] at hR
    cases hR
    rw [tflows_len]
    have H1 := hid h1
    have HG := hid g1
    have HS := hid g2
    have HD := hid g3.2
    clear h1 hl hl' e0 g1 g2 g3 g4
    go_enter Try.func10, Try.ntmps10
    go_wp2_with fail
    refine (i_canTree _ _ _ _ _ _ _ _ l ds _ (H.out.below (by go_grown)) (H'.out.below (by go_grown)) hn hm).mono ?_
    rintro e w1 ⟨rfl, hb1⟩
    rw [H1.out]
    obtain ⟨hc_w1, hf_w1⟩ := bcell hb1
    have hz_w1_0 : w.heap.size < w1.heap.size := by have := hb1.size; simp only [World.size_alloc] at this; omega
    have HB1 := hid (bstep (by go_grown) hb1 : Below w.heap.size w w1)
    go_wp2_with fail
    refine (i_treeFlows m s _ _ n _ _ l ds _ (H.out.below HB1.out) (H'.out.below HB1.out) HG.out HS.out HD.out).mono ?_
    rintro e w2 ⟨a2, c2, rfl, ho2, hb2⟩
    have HO := hid ho2
    have HB2 := hid (bstep HB1.out hb2)
    clear ho2 hb2
    go_wp2
    go_ret2
    exact ⟨_, _, rfl, HO.out.mono HB1.out.size, HB2.out⟩

set_option maxRecDepth 100000 in
set_option maxHeartbeats 2000000 in
theorem s_TreeFlows (N s : Int) (a p : Option Addr) (n c m d : Nat) (l : List Pip) (ds : List Int) (w : World) (h : QAt w a n l) (h' : IntsAt w p m ds) (hn : n ≤ 1048576) (hm : m ≤ 1048576) (hc : n ≤ c) (R : List Int) (b : Bool) (hR : treesR N l s ds = (R, b)) :
    Calls Try.prog 11 #[.agg #[.int .i64 N, .slice a n c], .int .i64 s, .slice p m d] w fun e w' => ∃ a' c', e = .returned (.tuple #[.slice a' R.length c', .bool b]) ∧ OwnI w' w.heap.size (.slice a' R.length c') R ∧ Below w.heap.size w w' := by
  have hl := h.1
  have hl' := h'.1
  have H := hid h
  have H' := hid h'
  clear h h'
  cases h1 : goodNet N l && inR s 1 N
  · have e0 : treesR N l s ds = ([], false) := by simp [treesR, canT, h1]
    rw [e0] at hR
    cases hR
    have H1 := hid h1
    clear h1 hl hl' e0
    go_enter Try.func11, Try.ntmps11
    go_wp2_with fail
    refine (s_l2Node _ s _ _ _ l _ (H.out.below (by go_grown)) hn).mono ?_
    rintro e w1 ⟨rfl, hb1⟩
    rw [H1.out]
    obtain ⟨hc_w1, hf_w1⟩ := bcell hb1
    have hz_w1_0 : w.heap.size < w1.heap.size := by have := hb1.size; simp only [World.size_alloc] at this; omega
    have HB1 := hid (bstep (by go_grown) hb1 : Below w.heap.size w w1)
    go_wp2
    go_ret2
    exact ⟨_, _, rfl, (OwnI.lit0 _).mono HB1.out.size, bstep HB1.out (by go_grown)⟩
  · have H1 := hid h1
    cases h2 : goodDem N ds
    · have e0 : treesR N l s ds = ([], false) := by simp [treesR, canT, h2]
      rw [e0] at hR
      cases hR
      have H2 := hid h2
      clear h1 h2 hl hl' e0
      go_enter Try.func11, Try.ntmps11
      go_wp2_with fail
      refine (s_l2Node _ s _ _ _ l _ (H.out.below (by go_grown)) hn).mono ?_
      rintro e w1 ⟨rfl, hb1⟩
      rw [H1.out]
      obtain ⟨hc_w1, hf_w1⟩ := bcell hb1
      have hz_w1_0 : w.heap.size < w1.heap.size := by have := hb1.size; simp only [World.size_alloc] at this; omega
      have HB1 := hid (bstep (by go_grown) hb1 : Below w.heap.size w w1)
      go_wp2_with fail
      refine (s_l8Demands _ _ _ _ _ _ _ ds _ (H'.out.below HB1.out) hm).mono ?_
      rintro e w2 ⟨rfl, hb2⟩
      rw [H2.out]
      obtain ⟨hc_w2, hf_w2⟩ := bcell hb2
      have hz_w2_0 : w.heap.size < w2.heap.size := by have := hb2.size; omega
      have HB2 := hid (bstep HB1.out hb2 : Below w.heap.size w w2)
      go_wp2
      go_ret2
      exact ⟨_, _, rfl, (OwnI.lit0 _).mono HB2.out.size, bstep HB2.out (by go_grown)⟩
    · have H2 := hid h2
      obtain ⟨g1, g2⟩ := (Bool.and_eq_true _ _).mp h1
      have hN := (goodNet_get g1).1
      obtain ⟨M, rfl⟩ : ∃ M : Nat, N = M := ⟨N.toNat, by omega⟩
      have HG := hid g1
      have HS := hid (inR_iff.1 g2)
      cases h3 : treeB M l
      · have e0 : treesR M l s ds = ([], false) := by simp [treesR, canT, h3]
        rw [e0] at hR
        cases hR
        have H3 := hid h3
        clear h1 h2 h3 hl hl' e0 g1 g2
        go_enter Try.func11, Try.ntmps11
        go_wp2_with fail
        refine (s_l2Node _ s _ _ _ l _ (H.out.below (by go_grown)) hn).mono ?_
        rintro e w1 ⟨rfl, hb1⟩
        rw [H1.out]
        obtain ⟨hc_w1, hf_w1⟩ := bcell hb1
        have hz_w1_0 : w.heap.size < w1.heap.size := by have := hb1.size; simp only [World.size_alloc] at this; omega
        have HB1 := hid (bstep (by go_grown) hb1 : Below w.heap.size w w1)
        go_wp2_with fail
        refine (s_l8Demands _ _ _ _ _ _ _ ds _ (H'.out.below HB1.out) hm).mono ?_
        rintro e w2 ⟨rfl, hb2⟩
        rw [H2.out]
        obtain ⟨hc_w2, hf_w2⟩ := bcell hb2
        have hz_w2_0 : w.heap.size < w2.heap.size := by have := hb2.size; omega
        have HB2 := hid (bstep HB1.out hb2 : Below w.heap.size w w2)
        go_wp2_with fail
        refine (s_l8Tree _ _ _ _ l _ (H.out.below HB2.out) HG.out).mono ?_
        rintro e w3 ⟨rfl, hb3⟩
        rw [H3.out]
        obtain ⟨hc_w3, hf_w3⟩ := bcell hb3
        have hz_w3_0 : w.heap.size < w3.heap.size := by have := hb3.size; omega
        have HB3 := hid (bstep HB2.out hb3 : Below w.heap.size w w3)
        go_wp2
        go_ret2
        exact ⟨_, _, rfl, (OwnI.lit0 _).mono HB3.out.size, bstep HB3.out (by go_grown)⟩
      · have hx := goodDem_iff.1 h2
        have hmM : m = M := by omega
        subst hmM
        have e0 : treesR m l s ds = (tflows m l s ds n, true) := by
          unfold treesR
          rw [if_pos (by simp [canT, h1, h2, h3]), hl]
          simp
        rw [e0] at hR
        cases hR
        rw [tflows_len]
        have H3 := hid h3
        have HD := hid hx.2
        clear h1 h2 h3 hl hl' e0 g1 g2 hx
        go_enter Try.func11, Try.ntmps11
        go_wp2_with fail
        refine (s_l2Node _ s _ _ _ l _ (H.out.below (by go_grown)) hn).mono ?_
        rintro e w1 ⟨rfl, hb1⟩
        rw [H1.out]
        obtain ⟨hc_w1, hf_w1⟩ := bcell hb1
        have hz_w1_0 : w.heap.size < w1.heap.size := by have := hb1.size; simp only [World.size_alloc] at this; omega
        have HB1 := hid (bstep (by go_grown) hb1 : Below w.heap.size w w1)
        go_wp2_with fail
        refine (s_l8Demands _ _ _ _ _ _ _ ds _ (H'.out.below HB1.out) hm).mono ?_
        rintro e w2 ⟨rfl, hb2⟩
        rw [H2.out]
        obtain ⟨hc_w2, hf_w2⟩ := bcell hb2
        have hz_w2_0 : w.heap.size < w2.heap.size := by have := hb2.size; omega
        have HB2 := hid (bstep HB1.out hb2 : Below w.heap.size w w2)
        go_wp2_with fail
        refine (s_l8Tree _ _ _ _ l _ (H.out.below HB2.out) HG.out).mono ?_
        rintro e w3 ⟨rfl, hb3⟩
        rw [H3.out]
        obtain ⟨hc_w3, hf_w3⟩ := bcell hb3
        have hz_w3_0 : w.heap.size < w3.heap.size := by have := hb3.size; omega
        have HB3 := hid (bstep HB2.out hb3 : Below w.heap.size w w3)
        go_wp2_with fail
        refine (s_l8TreeFlows m s _ _ n _ _ l ds _ (H.out.below HB3.out) (H'.out.below HB3.out) HG.out HS.out HD.out H3.out hc).mono ?_
        rintro e w4 ⟨a4, c4, rfl, ho4, hb4⟩
        have HO := hid ho4
        have HB4 := hid (bstep HB3.out hb4)
        clear ho4 hb4
        go_wp2
        go_ret2
        exact ⟨_, _, rfl, HO.out.mono HB3.out.size, HB4.out⟩

end Go.Proofs.Ytlnhikhpkcgegaa

/-
  HeadsOf, in the program and in the reference.
-/
set_option linter.unusedVariables false
set_option linter.unusedSimpArgs false
namespace Go.Proofs.Ytlnhikhpkcgegaa
open Go.RowKit

theorem i_isHead (x : Int) (w : World) : Calls Try.prog 101 #[.int .i64 x] w fun e w' => e = .returned (.bool (inR x 0 100000000000)) ∧ w = w' := by
  go_enter Try.func101, Try.ntmps101
  go_wp2_with fail
  refine (i_inside _ _ _ _).mono ?_
  rintro e _ ⟨rfl, rfl⟩
  go_wp2
  go_ret
  exact ⟨rfl, rfl⟩
theorem s_l9Head (x : Int) (w : World) : Calls Try.prog 114 #[.int .i64 x] w fun e w' => e = .returned (.bool (inR x 0 100000000000)) ∧ w = w' := by
  go_enter Try.func114, Try.ntmps114
  go_wp2_with fail
  refine (s_l1In _ _ _ _).mono ?_
  rintro e _ ⟨rfl, rfl⟩
  go_wp2
  go_ret
  exact ⟨rfl, rfl⟩
theorem s_l9Asked (N s hd : Int) (a p : Option Addr) (n c m d : Nat) (l : List Pip) (ds : List Int) (w : World) (h : QAt w a n l) (h' : IntsAt w p m ds) (hn : n ≤ 1048576) (hm : m ≤ 1048576) :
    Calls Try.prog 103 #[.agg #[.int .i64 N, .slice a n c], .int .i64 s, .slice p m d, .int .i64 hd] w fun e w' => e = .returned (.bool (canT N l s ds && inR hd 0 100000000000)) ∧ Below w.heap.size w w' := by
  have H := hid h
  have H' := hid h'
  clear h h'
  cases h1 : goodNet N l && inR s 1 N
  · have H1 := hid h1
    have E := hid (show false = (canT N l s ds && inR hd 0 100000000000) by simp [canT, h1])
    clear h1
    go_enter Try.func103, Try.ntmps103
    go_wp2_with fail
    refine (s_l2Node _ s _ _ _ l _ (H.out.below (by go_grown)) hn).mono ?_
    rintro e w1 ⟨rfl, hb1⟩
    rw [H1.out]
    obtain ⟨hc_w1, hf_w1⟩ := bcell hb1
    have hz_w1_0 : w.heap.size < w1.heap.size := by have := hb1.size; simp only [World.size_alloc] at this; omega
    have HB1 := hid (bstep (by go_grown) hb1 : Below w.heap.size w w1)
    go_wp2
    go_ret
    exact ⟨ret_bool E.out, HB1.out⟩
  · have H1 := hid h1
    cases h2 : goodDem N ds
    · have H2 := hid h2
      have E := hid (show false = (canT N l s ds && inR hd 0 100000000000) by simp [canT, h2])
      clear h1 h2
      go_enter Try.func103, Try.ntmps103
      go_wp2_with fail
      refine (s_l2Node _ s _ _ _ l _ (H.out.below (by go_grown)) hn).mono ?_
      rintro e w1 ⟨rfl, hb1⟩
      rw [H1.out]
      obtain ⟨hc_w1, hf_w1⟩ := bcell hb1
      have hz_w1_0 : w.heap.size < w1.heap.size := by have := hb1.size; simp only [World.size_alloc] at this; omega
      have HB1 := hid (bstep (by go_grown) hb1 : Below w.heap.size w w1)
      go_wp2_with fail
      refine (s_l8Demands _ _ _ _ _ _ _ ds _ (H'.out.below HB1.out) hm).mono ?_
      rintro e w2 ⟨rfl, hb2⟩
      rw [H2.out]
      obtain ⟨hc_w2, hf_w2⟩ := bcell hb2
      have hz_w2_0 : w.heap.size < w2.heap.size := by have := hb2.size; omega
      have HB2 := hid (bstep HB1.out hb2 : Below w.heap.size w w2)
      go_wp2
      go_ret
      exact ⟨ret_bool E.out, HB2.out⟩
    · have H2 := hid h2
      obtain ⟨g1, g2⟩ := (Bool.and_eq_true _ _).mp h1
      have hN := (goodNet_get g1).1
      obtain ⟨M, rfl⟩ : ∃ M : Nat, N = M := ⟨N.toNat, by omega⟩
      have HG := hid g1
      cases h3 : treeB M l
      · have E := hid (show false = (canT M l s ds && inR hd 0 100000000000) by simp [canT, h3])
        have H3 := hid h3
        clear h1 h2 h3 g1 g2
        go_enter Try.func103, Try.ntmps103
        go_wp2_with fail
        refine (s_l2Node _ s _ _ _ l _ (H.out.below (by go_grown)) hn).mono ?_
        rintro e w1 ⟨rfl, hb1⟩
        rw [H1.out]
        obtain ⟨hc_w1, hf_w1⟩ := bcell hb1
        have hz_w1_0 : w.heap.size < w1.heap.size := by have := hb1.size; simp only [World.size_alloc] at this; omega
        have HB1 := hid (bstep (by go_grown) hb1 : Below w.heap.size w w1)
        go_wp2_with fail
        refine (s_l8Demands _ _ _ _ _ _ _ ds _ (H'.out.below HB1.out) hm).mono ?_
        rintro e w2 ⟨rfl, hb2⟩
        rw [H2.out]
        obtain ⟨hc_w2, hf_w2⟩ := bcell hb2
        have hz_w2_0 : w.heap.size < w2.heap.size := by have := hb2.size; omega
        have HB2 := hid (bstep HB1.out hb2 : Below w.heap.size w w2)
        go_wp2_with fail
        refine (s_l8Tree _ _ _ _ l _ (H.out.below HB2.out) HG.out).mono ?_
        rintro e w3 ⟨rfl, hb3⟩
        rw [H3.out]
        obtain ⟨hc_w3, hf_w3⟩ := bcell hb3
        have hz_w3_0 : w.heap.size < w3.heap.size := by have := hb3.size; omega
        have HB3 := hid (bstep HB2.out hb3 : Below w.heap.size w w3)
        go_wp2
        go_ret
        exact ⟨ret_bool E.out, HB3.out⟩
      · have E := hid (show inR hd 0 100000000000 = (canT M l s ds && inR hd 0 100000000000) by simp [canT, h1, h2, h3])
        have H3 := hid h3
        clear h1 h2 h3 g1 g2
        go_enter Try.func103, Try.ntmps103
        go_wp2_with fail
        refine (s_l2Node _ s _ _ _ l _ (H.out.below (by go_grown)) hn).mono ?_
        rintro e w1 ⟨rfl, hb1⟩
        rw [H1.out]
        obtain ⟨hc_w1, hf_w1⟩ := bcell hb1
        have hz_w1_0 : w.heap.size < w1.heap.size := by have := hb1.size; simp only [World.size_alloc] at this; omega
        have HB1 := hid (bstep (by go_grown) hb1 : Below w.heap.size w w1)
        go_wp2_with fail
        refine (s_l8Demands _ _ _ _ _ _ _ ds _ (H'.out.below HB1.out) hm).mono ?_
        rintro e w2 ⟨rfl, hb2⟩
        rw [H2.out]
        obtain ⟨hc_w2, hf_w2⟩ := bcell hb2
        have hz_w2_0 : w.heap.size < w2.heap.size := by have := hb2.size; omega
        have HB2 := hid (bstep HB1.out hb2 : Below w.heap.size w w2)
        go_wp2_with fail
        refine (s_l8Tree _ _ _ _ l _ (H.out.below HB2.out) HG.out).mono ?_
        rintro e w3 ⟨rfl, hb3⟩
        rw [H3.out]
        obtain ⟨hc_w3, hf_w3⟩ := bcell hb3
        have hz_w3_0 : w.heap.size < w3.heap.size := by have := hb3.size; omega
        have HB3 := hid (bstep HB2.out hb3 : Below w.heap.size w w3)
        go_wp2_with fail
        refine (s_l9Head _ _).mono ?_
        rintro e _ ⟨rfl, rfl⟩
        go_wp2
        go_ret
        exact ⟨ret_bool E.out, HB3.out⟩

/-- What HeadsOf returns. -/
noncomputable def headsR (N : Int) (l : List Pip) (s : Int) (ds : List Int) (hd : Int) : List Int × Bool := if (canT N l s ds && inR hd 0 100000000000) = true then (headL l (tflows N.toNat l s ds l.length) s hd N.toNat, true) else ([], false)
theorem headsR_len {N : Int} {l : List Pip} {s : Int} {ds : List Int} {hd : Int} {R : List Int} {b : Bool} (h : headsR N l s ds hd = (R, b)) : R.length ≤ 1000 := by
  unfold headsR at h
  split at h
  · rename_i h1
    cases h
    rw [headL_len]
    have := (goodNet_get (canT_iff ((Bool.and_eq_true _ _).mp h1).1).1).1
    omega
  · cases h
    simp

set_option maxRecDepth 100000 in
set_option maxHeartbeats 2000000 in
theorem i_HeadsOf (N s hd : Int) (a p : Option Addr) (n c m d : Nat) (l : List Pip) (ds : List Int) (w : World) (h : QAt w a n l) (h' : IntsAt w p m ds) (hn : n ≤ 1048576) (hm : m ≤ 1048576) (R : List Int) (b : Bool) (hR : headsR N l s ds hd = (R, b)) :
    Calls Try.prog 32 #[.agg #[.int .i64 N, .slice a n c], .int .i64 s, .slice p m d, .int .i64 hd] w fun e w' => ∃ a' c', e = .returned (.tuple #[.slice a' R.length c', .bool b]) ∧ OwnI w' w.heap.size (.slice a' R.length c') R ∧ Below w.heap.size w w' := by
  have hl := h.1
  have hl' := h'.1
  have H := hid h
  have H' := hid h'
  clear h h'
  cases h1 : canT N l s ds
  · have e0 : headsR N l s ds hd = ([], false) := by simp [headsR, h1]
    rw [e0] at hR
    cases hR
    have H1 := hid h1
    clear h1 hl hl'
    go_enter Try.func32, Try.ntmps32
    go_wp2_with fail
    refine (i_canTree _ _ _ _ _ _ _ _ l ds _ (H.out.below (by go_grown)) (H'.out.below (by go_grown)) hn hm).mono ?_
    rintro e w1 ⟨rfl, hb1⟩
    rw [H1.out]
    obtain ⟨hc_w1, hf_w1⟩ := bcell hb1
    have hz_w1_0 : w.heap.size < w1.heap.size := by have := hb1.size; simp only [World.size_alloc] at this; omega
    have HB1 := hid (bstep (by go_grown) hb1 : Below w.heap.size w w1)
    go_wp2
    go_ret2
    exact ⟨_, _, rfl, OwnI.nil _ _, HB1.out⟩
  · have H1 := hid h1
    cases h2 : inR hd 0 100000000000
    · have e0 : headsR N l s ds hd = ([], false) := by simp [headsR, h2]
      rw [e0] at hR
      cases hR
      have H2 := hid h2
      clear h1 h2 hl hl'
      go_enter Try.func32, Try.ntmps32
      go_wp2_with fail
      refine (i_canTree _ _ _ _ _ _ _ _ l ds _ (H.out.below (by go_grown)) (H'.out.below (by go_grown)) hn hm).mono ?_
      rintro e w1 ⟨rfl, hb1⟩
      rw [H1.out]
      obtain ⟨hc_w1, hf_w1⟩ := bcell hb1
      have hz_w1_0 : w.heap.size < w1.heap.size := by have := hb1.size; simp only [World.size_alloc] at this; omega
      have HB1 := hid (bstep (by go_grown) hb1 : Below w.heap.size w w1)
      go_wp2_with fail
      refine (i_isHead _ _).mono ?_
      rintro e _ ⟨rfl, rfl⟩
      rw [H2.out]
      go_wp2
      go_ret2
      exact ⟨_, _, rfl, OwnI.nil _ _, HB1.out⟩
    · have H2 := hid h2
      obtain ⟨g1, g2, g3, g4⟩ := canT_iff h1
      have hN := (goodNet_get g1).1
      obtain ⟨M, rfl⟩ : ∃ M : Nat, N = M := ⟨N.toNat, by omega⟩
      have hmM : m = M := by omega
      subst hmM
      obtain ⟨s0, rfl⟩ : ∃ s0 : Nat, s = s0 := ⟨s.toNat, by omega⟩
      have e0 : headsR m l s0 ds hd = (headL l (tflows m l s0 ds n) s0 hd m, true) := by
        unfold headsR
        rw [if_pos (by simp [h1, h2]), hl]
        simp
      rw [e0] at hR
      cases hR
      rw [headL_len]
      have HG := hid g1
      have HS := hid (show 1 ≤ s0 ∧ s0 ≤ m by omega)
      have HD := hid g3.2
      have HT := hid g4
      have HH := hid (inR_iff.1 h2)
      clear h1 h2 hl hl' e0 g1 g2 g3 g4
      go_enter Try.func32, Try.ntmps32
      go_wp2_with fail
      refine (i_canTree _ _ _ _ _ _ _ _ l ds _ (H.out.below (by go_grown)) (H'.out.below (by go_grown)) hn hm).mono ?_
      rintro e w1 ⟨rfl, hb1⟩
      rw [H1.out]
      obtain ⟨hc_w1, hf_w1⟩ := bcell hb1
      have hz_w1_0 : w.heap.size < w1.heap.size := by have := hb1.size; simp only [World.size_alloc] at this; omega
      have HB1 := hid (bstep (by go_grown) hb1 : Below w.heap.size w w1)
      go_wp2_with fail
      refine (i_isHead _ _).mono ?_
      rintro e _ ⟨rfl, rfl⟩
      rw [H2.out]
      go_wp2_with fail
      refine (i_headsOf m s0 hd _ _ n _ _ l ds _ (H.out.below HB1.out) (H'.out.below HB1.out) HG.out HS.out HD.out HT.out HH.out).mono ?_
      rintro e w2 ⟨a2, c2, rfl, ho2, hb2⟩
      have HO := hid ho2
      have HB2 := hid (bstep HB1.out hb2)
      clear ho2 hb2
      go_wp2
      go_ret2
      exact ⟨_, _, rfl, HO.out.mono HB1.out.size, HB2.out⟩

set_option maxRecDepth 100000 in
set_option maxHeartbeats 2000000 in
theorem s_HeadsOf (N s hd : Int) (a p : Option Addr) (n c m d : Nat) (l : List Pip) (ds : List Int) (w : World) (h : QAt w a n l) (h' : IntsAt w p m ds) (hn : n ≤ 1048576) (hm : m ≤ 1048576) (hc : n ≤ c) (R : List Int) (b : Bool) (hR : headsR N l s ds hd = (R, b)) :
    Calls Try.prog 33 #[.agg #[.int .i64 N, .slice a n c], .int .i64 s, .slice p m d, .int .i64 hd] w fun e w' => ∃ a' c', e = .returned (.tuple #[.slice a' R.length c', .bool b]) ∧ OwnI w' w.heap.size (.slice a' R.length c') R ∧ Below w.heap.size w w' := by
  have hl := h.1
  have hl' := h'.1
  have H := hid h
  have H' := hid h'
  clear h h'
  cases h0 : canT N l s ds && inR hd 0 100000000000
  · have e0 : headsR N l s ds hd = ([], false) := by simp [headsR, h0]
    rw [e0] at hR
    cases hR
    have H0 := hid h0
    clear h0 hl hl'
    go_enter Try.func33, Try.ntmps33
    go_wp2_with fail
    refine (s_l9Asked _ _ _ _ _ _ _ _ _ l ds _ (H.out.below (by go_grown)) (H'.out.below (by go_grown)) hn hm).mono ?_
    rintro e w1 ⟨rfl, hb1⟩
    rw [H0.out]
    obtain ⟨hc_w1, hf_w1⟩ := bcell hb1
    have hz_w1_0 : w.heap.size < w1.heap.size := by have := hb1.size; simp only [World.size_alloc] at this; omega
    have HB1 := hid (bstep (by go_grown) hb1 : Below w.heap.size w w1)
    go_wp2
    go_ret2
    exact ⟨_, _, rfl, (OwnI.lit0 _).mono HB1.out.size, bstep HB1.out (by go_grown)⟩
  · have H0 := hid h0
    obtain ⟨h1, h2⟩ := (Bool.and_eq_true _ _).mp h0
    obtain ⟨g1, g2, g3, g4⟩ := canT_iff h1
    have hN := (goodNet_get g1).1
    obtain ⟨M, rfl⟩ : ∃ M : Nat, N = M := ⟨N.toNat, by omega⟩
    have hmM : m = M := by omega
    subst hmM
    obtain ⟨s0, rfl⟩ : ∃ s0 : Nat, s = s0 := ⟨s.toNat, by omega⟩
    have e0 : headsR m l s0 ds hd = (headL l (tflows m l s0 ds n) s0 hd m, true) := by
      unfold headsR
      rw [if_pos (by simp [h1, h2]), hl]
      simp
    rw [e0] at hR
    cases hR
    rw [headL_len]
    have HG := hid g1
    have HS := hid (show 1 ≤ s0 ∧ s0 ≤ m by omega)
    have HD := hid g3.2
    have HT := hid g4
    have HH := hid (inR_iff.1 h2)
    clear h1 h2 hl hl' e0 g1 g2 g3 g4
    go_enter Try.func33, Try.ntmps33
    go_wp2_with fail
    refine (s_l9Asked _ _ _ _ _ _ _ _ _ l ds _ (H.out.below (by go_grown)) (H'.out.below (by go_grown)) hn hm).mono ?_
    rintro e w1 ⟨rfl, hb1⟩
    rw [H0.out]
    obtain ⟨hc_w1, hf_w1⟩ := bcell hb1
    have hz_w1_0 : w.heap.size < w1.heap.size := by have := hb1.size; simp only [World.size_alloc] at this; omega
    have HB1 := hid (bstep (by go_grown) hb1 : Below w.heap.size w w1)
    go_wp2_with fail
    refine (s_l9Heads m s0 hd _ _ n _ _ l ds _ (H.out.below HB1.out) (H'.out.below HB1.out) HG.out HS.out HD.out HT.out hc HH.out).mono ?_
    rintro e w2 ⟨a2, c2, rfl, ho2, hb2⟩
    have HO := hid ho2
    have HB2 := hid (bstep HB1.out hb2)
    clear ho2 hb2
    go_wp2
    go_ret2
    exact ⟨_, _, rfl, HO.out.mono HB1.out.size, HB2.out⟩

end Go.Proofs.Ytlnhikhpkcgegaa

