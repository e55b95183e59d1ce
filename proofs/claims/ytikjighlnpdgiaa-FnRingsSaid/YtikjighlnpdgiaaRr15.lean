/-
  Texts of this claim, joined: LoopS, RingF, Turn, TurnF, NetF.
-/
import Derived.Test.YtikjighlnpdgiaaRr3
import Derived.Test.YtikjighlnpdgiaaRr4
import Derived.Test.YtikjighlnpdgiaaRr6
import Derived.Test.YtikjighlnpdgiaaRr11
import Derived.Test.YtikjighlnpdgiaaRr12
import Derived.Test.YtikjighlnpdgiaaRr13
import Derived.Test.YtikjighlnpdgiaaRr14
/-
  The loop of a ring: the reference's walk.
-/
set_option linter.unusedVariables false
set_option linter.unusedSimpArgs false
namespace Go.Proofs.Ytikjighlnpdgiaa
open Go.RowKit

theorem on_reach {M : Nat} {l : List Pip} {k : Nat} (hg : goodNet M l = true) (hk : k < l.length) : decide ((pp l k).2.2.1 ∈ reachL M (l.eraseIdx k) 0 (pp l k).2.1) = onL l k := by
  rw [reach_without hg hk]
  unfold onL
  have hp := (goodNet_pipe hg hk).2.2.1
  by_cases h : 0 ≤ far l (pp l k).1 (pp l k).2.1 (pp l k).2.2.1
  · rw [decide_eq_true h, decide_eq_true ((to_reached hp).2 h)]
  · rw [decide_eq_false h, decide_eq_false (fun e => h ((to_reached hp).1 e))]

set_option maxRecDepth 100000 in
set_option maxHeartbeats 8000000 in
theorem s_l10Loop (M : Nat) (a : Option Addr) (n c : Nat) (l : List Pip) (w : World) (h : QAt w a n l) (hg : goodNet M l = true) (hr : ringB M l = true) (hc : n ≤ c) :
    Calls Try.prog 34 #[.agg #[.int .i64 M, .slice a n c]] w fun e w' => ∃ a' c', e = .returned (.slice a' n c') ∧ OwnI w' w.heap.size (.slice a' n c') (loopS l) ∧ Below w.heap.size w w' := by
  have hM : M ≤ 8 := by have := (goodNet_get hg).1; omega
  have hM1 : 1 ≤ M := by have := (goodNet_get hg).1; omega
  obtain ⟨i0, d, v, q, hL, hon, hfi, hS, hfar, hway⟩ := loop_data hg hr
  have hln := h.1
  have hnM : n = M := by have := ((ringB_iff hg).1 hr).1; omega
  have HLN := hid h.1
  have H := hid h
  have HG := hid hg
  have HR := hid hr
  have HL := hid hL
  have HON := hid hon
  have HFI := hid hfi
  have HFAR := hid hfar
  have HWAY := hid hway
  have h0n : i0 < n := by have := hL.lt0; omega
  have hn : n ≤ 8 := by omega
  rw [hS]
  have HNM := hid hnM
  have HGE := fun k => hid (goodNet_sub (List.eraseIdx_sublist l k) hg)
  have HRL := fun k s => hid (show (reachL M (l.eraseIdx k) 0 s).length ≤ 1048576 from by have := reachL_len (N := M) (l := l.eraseIdx k) (wo := 0) (s := s); omega)
  clear h hg hr hL hon hfi hS hln hnM hfar hway
  go_enter Try.func34, Try.ntmps34
  go_upto_region 1 with fail
  have BA := hid (by go_grown : Below w.heap.size w (w.alloc (.cells #[.int .i64 M, .slice a n c] 31)))
  have N0 := hid (cell_of_row _ _ 0 _ _ (0, 0) (heap_alloc_new w (.cells #[.int .i64 M, .slice a n c] 31)))
  have N1 := hid (cell_of_row _ _ 1 _ _ (0, 0) (heap_alloc_new w (.cells #[.int .i64 M, .slice a n c] 31)))
  have hzA : w.heap.size < (w.alloc (.cells #[.int .i64 M, .slice a n c] 31)).heap.size := by simp
  have n0 := N0.out
  have n1 := N1.out
  simp only [List.getElem?_toArray, List.getElem?_cons_zero, List.getElem?_cons_succ] at n0 n1
  generalize w.alloc (.cells #[.int .i64 M, .slice a n c] 31) = wA at *
  have KA := hid (show ∀ wx, Below wA.heap.size wA wx → (wx.cell? ⟨w.heap.size, 0, none⟩ = some (.int .i64 M) ∧ wx.cell? ⟨w.heap.size, 1, none⟩ = some (.slice a n c)) from fun wx hb => ⟨(hb.cell (p := ⟨w.heap.size, 0, none⟩) hzA).trans n0, (hb.cell (p := ⟨w.heap.size, 1, none⟩) hzA).trans n1⟩)
  go_wp2
  go_loopg [3, 4, 5] n (fun g o f i wr => ∃ (k : Nat) (a' : Option Addr) (c' : Nat) (z : Int), k ≤ n ∧ g = n - k ∧ i = .int .i64 k ∧ f = .int .i64 z ∧ o = .slice a' k c' ∧ Hid (z = if i0 < k then (i0 : Int) else -1) ∧ Hid (OwnI wr wA.heap.size (.slice a' k c') (List.replicate k 0) ∧ Below wA.heap.size wA wr))
  case atStart => exact ⟨0, _, 0, -1, Nat.zero_le _, rfl, rfl, rfl, rfl, hid (by simp), hid ⟨OwnI.lit0 wA, by go_grown⟩⟩
  case round =>
    obtain ⟨k, a', c', z, hk, rfl, rfl, rfl, rfl, hz, hh⟩ := hrel
    clear n0 n1
    obtain ⟨n0, n1⟩ := KA.out _ hh.out.2
    have hz0 : w.heap.size < wr.heap.size := World.block_lt_of_cell? wr _ n0
    by_cases hlt : k < n
    · go_wp2_with (at_builtin; refine wp_append_ints _ rfl _ _ rfl wA.heap.size _ (List.replicate k 0) rfl (hh.out.1.alloc _) _ 1 1 [0] rfl (IntsAt.single _ _) (k + 1) (by simp) (by omega) (by have := hh.out.2.size; simp; omega) ?_)
      intro a2 c2 w5 hown hgrow hblk
      have S2 := hid (show OwnI w5 wA.heap.size (.slice a2 (k + 1) c2) (List.replicate (k + 1) 0) ∧ Below wA.heap.size wA w5 from
        ⟨by rw [List.replicate_succ']; exact hown, (bstep hh.out.2 (by go_grown)).grown hgrow (by have := hh.out.2.size; simp; omega) (fun q hq => (hh.out.1.lt q hq).1)⟩)
      clear hown hgrow hblk n0 n1 hz0 hh
      obtain ⟨n0, n1⟩ := KA.out _ S2.out.2
      have hz0 : w.heap.size < w5.heap.size := World.block_lt_of_cell? w5 _ n0
      by_cases hf : i0 < k
      · have hz1 : z = (i0 : Int) := by rw [hz.out, if_pos hf]
        subst hz1
        have g1 : decide ((i0 : Int) < 0) = false := by simp
        go_upto_region 7 with fail
        go_quiet (fail)
        go_wp2
        go_roundg (n - (k + 1))
        case rel => exact ⟨k + 1, a2, c2, i0, by omega, rfl, by go_num, rfl, rfl, hid (by rw [if_pos (by omega)]), hid ⟨S2.out.1.below (bdraws _), bstep S2.out.2 (bdraws _)⟩⟩
        case measure => omega
      · have hz1 : z = -1 := by rw [hz.out, if_neg hf]
        subst hz1
        obtain ⟨b0, off0, rfl, hbw, x0, x1, x2, x3⟩ := QAt.get (H.out.below (bstep BA.out S2.out.2)) k hlt
        have hkl : k < l.length := by have := HLN.out; omega
        have HP := hid (goodNet_pipe HG.out hkl)
        obtain ⟨F, hF⟩ : ∃ F : Nat, (pp l k).2.1 = F := ⟨(pp l k).2.1.toNat, by have := HP.out.2.1; omega⟩
        obtain ⟨T, hT⟩ : ∃ T : Nat, (pp l k).2.2.1 = T := ⟨(pp l k).2.2.1.toNat, by have := HP.out.2.2.1; omega⟩
        have hF1 : 1 ≤ F ∧ F ≤ M := by have := HP.out.2.1; omega
        obtain ⟨b, hb⟩ : ∃ b, onL l k = b := ⟨_, rfl⟩
        have HOR := hid (on_reach HG.out hkl)
        rw [hF, hT, hb] at HOR
        have HB := hid hb
        rw [hF] at x1
        rw [hT] at x2
        have KX := hid (show ∀ wx, Below w5.heap.size w5 wx → (wx.cell? ⟨w.heap.size, 0, none⟩ = some (.int .i64 M) ∧ wx.cell? ⟨w.heap.size, 1, none⟩ = some (.slice (some ⟨b0, off0, none⟩) n c) ∧ wx.cell? ⟨b0, off0 + k * 4 + 1, none⟩ = some (.int .i64 F) ∧ wx.cell? ⟨b0, off0 + k * 4 + 2, none⟩ = some (.int .i64 T)) from fun wx hb => ⟨(hb.cell (p := ⟨w.heap.size, 0, none⟩) hz0).trans n0, (hb.cell (p := ⟨w.heap.size, 1, none⟩) hz0).trans n1, (hb.cell (p := ⟨b0, off0 + k * 4 + 1, none⟩) hbw).trans x1, (hb.cell (p := ⟨b0, off0 + k * 4 + 2, none⟩) hbw).trans x2⟩)
        have g1 : decide ((-1 : Int) < 0) = true := by decide
        clear hF hT hkl hb
        go_upto_region 7 with fail
        cases b
        · go_cut [43] (fun s wx => s = .bool false ∧ Hid (Below w5.heap.size w5 wx))
          case first =>
            go_region_held3 (fun w' => (w'.cell? ⟨w.heap.size, 0, none⟩ = some (.int .i64 M) ∧ w'.cell? ⟨w.heap.size, 1, none⟩ = some (.slice (some ⟨b0, off0, none⟩) n c) ∧ w'.cell? ⟨b0, off0 + k * 4 + 1, none⟩ = some (.int .i64 F) ∧ w'.cell? ⟨b0, off0 + k * 4 + 2, none⟩ = some (.int .i64 T))) (first | go_keep | exact KX.out _ (by first | assumption | go_grown))
              (first
                | (go_at_call 36; refine (s_l2Without M k _ _ _ l _ (H.out.below (bstep BA.out (bstep S2.out.2 (by go_grown)))) (by omega) hc hlt).mono ?_; rintro e w6 ⟨a6, c6, rfl, ho6, hb6⟩; have hbA : Below w5.heap.size w5 w6 := (bstep ((Below.refl _ _).drew : Below w5.heap.size w5 w5.drew) hb6))
                | (go_at_call 74; refine (s_l2Reached M F _ _ _ (l.eraseIdx k) _ (OwnS.at qf_len ho6) (HGE k).out (by omega)).mono ?_; rintro e w7 ⟨g7, c7, rfl, ho7, hb7⟩; have hbB : Below w5.heap.size w5 w7 := bstep hbA hb7)
                | (go_at_call 75; refine (s_l1Has_is _ _ _ T _ _ ho7.at (HRL k F).out _ HOR.out).mono ?_; rintro e _ ⟨rfl, rfl⟩))
            all_goals (go_wp2_with fail; go_meet)
            all_goals exact ⟨rfl, hid hbB⟩
          case rest =>
            obtain ⟨rfl, hx⟩ := hcut
            have hki : k ≠ i0 := fun e => by have := HON.out; rw [← e, HB.out] at this; cases this
            clear n0 n1 x0 x1 x2 x3 hz0
            go_wp2
            go_roundg (n - (k + 1))
            case rel => exact ⟨k + 1, a2, c2, -1, by omega, rfl, by go_num, rfl, rfl, hid (by rw [if_neg (by omega)]), hid ⟨S2.out.1.below hx.out, bstep S2.out.2 hx.out⟩⟩
            case measure => omega
        · go_cut [43] (fun s wx => s = .bool true ∧ Hid (Below w5.heap.size w5 wx))
          case first =>
            go_region_held3 (fun w' => (w'.cell? ⟨w.heap.size, 0, none⟩ = some (.int .i64 M) ∧ w'.cell? ⟨w.heap.size, 1, none⟩ = some (.slice (some ⟨b0, off0, none⟩) n c) ∧ w'.cell? ⟨b0, off0 + k * 4 + 1, none⟩ = some (.int .i64 F) ∧ w'.cell? ⟨b0, off0 + k * 4 + 2, none⟩ = some (.int .i64 T))) (first | go_keep | exact KX.out _ (by first | assumption | go_grown))
              (first
                | (go_at_call 36; refine (s_l2Without M k _ _ _ l _ (H.out.below (bstep BA.out (bstep S2.out.2 (by go_grown)))) (by omega) hc hlt).mono ?_; rintro e w6 ⟨a6, c6, rfl, ho6, hb6⟩; have hbA : Below w5.heap.size w5 w6 := (bstep ((Below.refl _ _).drew : Below w5.heap.size w5 w5.drew) hb6))
                | (go_at_call 74; refine (s_l2Reached M F _ _ _ (l.eraseIdx k) _ (OwnS.at qf_len ho6) (HGE k).out (by omega)).mono ?_; rintro e w7 ⟨g7, c7, rfl, ho7, hb7⟩; have hbB : Below w5.heap.size w5 w7 := bstep hbA hb7)
                | (go_at_call 75; refine (s_l1Has_is _ _ _ T _ _ ho7.at (HRL k F).out _ HOR.out).mono ?_; rintro e _ ⟨rfl, rfl⟩))
            all_goals (go_wp2_with fail; go_meet)
            all_goals exact ⟨rfl, hid hbB⟩
          case rest =>
            obtain ⟨rfl, hx⟩ := hcut
            have hki : k = i0 := by
              have h2 : ¬ k < i0 := fun e => by have := HFI.out k e; rw [HB.out] at this; cases this
              omega
            clear n0 n1 x0 x1 x2 x3 hz0
            go_wp2
            go_roundg (n - (k + 1))
            case rel => exact ⟨k + 1, a2, c2, k, by omega, rfl, by go_num, rfl, rfl, hid (by rw [if_pos (by omega), hki]), hid ⟨S2.out.1.below hx.out, bstep S2.out.2 hx.out⟩⟩
            case measure => omega
    · obtain rfl : n = k := by omega
      have hz1 : z = (i0 : Int) := by rw [hz.out, if_pos h0n]
      subst hz1
      have j0 : (0 : Int) ≤ (i0 : Int) := by omega
      have j1 : (i0 : Int) < (n : Int) := by omega
      obtain ⟨b0, off0, rfl, hbw, x0, x1, x2, x3⟩ := QAt.get H.out i0 h0n
      have HP0 := hid (goodNet_pipe HG.out HL.out.lt0)
      obtain ⟨F, hF⟩ : ∃ F : Nat, (pp l i0).2.1 = F := ⟨(pp l i0).2.1.toNat, by have := HP0.out.2.1; omega⟩
      obtain ⟨T, hT⟩ : ∃ T : Nat, (pp l i0).2.2.1 = T := ⟨(pp l i0).2.2.1.toNat, by have := HP0.out.2.2.1; omega⟩
      have HFT := hid (show (1 ≤ F ∧ F ≤ M) ∧ 1 ≤ T ∧ T ≤ M from by have := HP0.out.2.1; have := HP0.out.2.2.1; omega)
      have HFF := hid hF
      have HTT := hid hT
      rw [hF] at x1
      rw [hT] at x2
      have KX := hid (show ∀ W, Below wA.heap.size wA W → (W.cell? ⟨b0, off0 + i0 * 4 + 1, none⟩ = some (.int .i64 F) ∧ W.cell? ⟨b0, off0 + i0 * 4 + 2, none⟩ = some (.int .i64 T)) from fun W hb => ⟨((bstep BA.out hb).cell (p := ⟨b0, off0 + i0 * 4 + 1, none⟩) hbw).trans x1, ((bstep BA.out hb).cell (p := ⟨b0, off0 + i0 * 4 + 2, none⟩) hbw).trans x2⟩)
      have hbA : b0 < wA.heap.size := by omega
      clear x0 x1 x2 x3 hF hT hbw hlt
      go_wp2_with fail
      refine (s_l2Without M i0 _ _ _ l _ (H.out.below (bstep BA.out hh.out.2)) (by omega) hc h0n).mono ?_
      rintro e w7 ⟨a7, c7, rfl, ho7, hb7⟩
      obtain ⟨gl, rfl, hgl1, hgl2⟩ := own_some hh.out.1 (by omega)
      have HB7 := hid (bstep hh.out.2 hb7)
      have HO7 := hid (hh.out.1.below hb7)
      have HR7 := hid (ho7.mono hh.out.2.size)
      have hw7 := hb7.size
      obtain ⟨n0', n1'⟩ := KA.out _ HB7.out
      obtain ⟨x1, x2⟩ := KX.out _ HB7.out
      have hz7 : w.heap.size < w7.heap.size := World.block_lt_of_cell? w7 _ n0'
      have hb07 : b0 < w7.heap.size := World.block_lt_of_cell? w7 _ x1
      have hcl := (HO7.out).cell (k := i0) h0n
      have hfr := (HO7.out).frozen (k := i0)
      have hgl7 : gl < w7.heap.size := by omega
      have hbg : ¬ b0 = gl := by omega
      have hbg2 : ¬ gl = b0 := by omega
      have hwg : ¬ w.heap.size = gl := by omega
      have hwg2 : ¬ gl = w.heap.size := by omega
      have HNE := hid (show ∀ k, Value.ownBlock (.slice a7 (n - 1) c7) = some k → k ≠ gl from fun k hk e => by have := (ho7.lt k hk).1; omega)
      clear ho7 hb7 n0 n1 hz0
      have SS := hid (HO7.out.set (k := i0) 1)
      go_upto_region 12 with fail
      have S9 : sigs l i0 v q 0 = (List.replicate n 0).set i0 1 := by unfold sigs; rw [HLN.out]
      have hR9 := (HR7.out.kept SS.out.2 (by
        cases e : Value.ownBlock (.slice a7 (n - 1) c7) with
        | none => exact .inl rfl
        | some k => exact .inr (fun e2 => HNE.out k e (by simpa using e2)))).alloc (.cells #[.int .i64 M, .slice a7 (n - 1) c7] 31)
      have hB9 := HB7.out.grown SS.out.2 HB7.out.size (fun k hk => by simp at hk; omega)
      have W9 := hid (show OwnI ((w7.setCell ⟨gl, i0, none⟩ (.int .i64 1)).alloc (.cells #[.int .i64 M, .slice a7 (n - 1) c7] 31)) wA.heap.size (.slice (some ⟨gl, 0, none⟩) n c') (sigs l i0 v q 0) ∧ OwnQ ((w7.setCell ⟨gl, i0, none⟩ (.int .i64 1)).alloc (.cells #[.int .i64 M, .slice a7 (n - 1) c7] 31)) wA.heap.size (.slice a7 (n - 1) c7) (l.eraseIdx i0) ∧ Below wA.heap.size wA ((w7.setCell ⟨gl, i0, none⟩ (.int .i64 1)).alloc (.cells #[.int .i64 M, .slice a7 (n - 1) c7] 31)) from ⟨by rw [S9]; exact SS.out.1.alloc _, hR9, bstep hB9 (by go_grown)⟩)
      have hT9 := last_new (w7.setCell ⟨gl, i0, none⟩ (.int .i64 1)) (.cells #[.int .i64 M, .slice a7 (n - 1) c7] 31) w7.heap.size (by simp)
      generalize (w7.setCell ⟨gl, i0, none⟩ (.int .i64 1)).alloc (.cells #[.int .i64 M, .slice a7 (n - 1) c7] 31) = w9 at *
      have r0 : w9.cell? ⟨w7.heap.size, 0, none⟩ = some (.int .i64 M) := by rw [cell_of_row w9 _ _ _ _ (0, 0) hT9]; rfl
      have r1 : w9.cell? ⟨w7.heap.size, 1, none⟩ = some (.slice a7 (n - 1) c7) := by rw [cell_of_row w9 _ _ _ _ (0, 0) hT9]; rfl
      have hr9 : w7.heap.size < w9.heap.size := World.block_lt_of_cell? w9 _ r0
      clear SS S9 hR9 hB9 hT9 hcl hfr n0' n1' x1 x2 hh hz7 hb07 hgl2
      obtain ⟨n0, n1⟩ := KA.out _ W9.out.2.2
      obtain ⟨x1, x2⟩ := KX.out _ W9.out.2.2
      have hz9 : w.heap.size < w9.heap.size := World.block_lt_of_cell? w9 _ n0
      have hb9 : b0 < w9.heap.size := World.block_lt_of_cell? w9 _ x1
      have KR := hid (show ∀ wx, Below w9.heap.size w9 wx → (wx.cell? ⟨w.heap.size, 1, none⟩ = some (.slice (some ⟨b0, off0, none⟩) n c) ∧ wx.cell? ⟨w7.heap.size, 0, none⟩ = some (.int .i64 M) ∧ wx.cell? ⟨w7.heap.size, 1, none⟩ = some (.slice a7 (n - 1) c7) ∧ wx.cell? ⟨b0, off0 + i0 * 4 + 1, none⟩ = some (.int .i64 F)) from fun wx hb => ⟨(hb.cell (p := ⟨w.heap.size, 1, none⟩) hz9).trans n1, (hb.cell (p := ⟨w7.heap.size, 0, none⟩) hr9).trans r0, (hb.cell (p := ⟨w7.heap.size, 1, none⟩) hr9).trans r1, (hb.cell (p := ⟨b0, off0 + i0 * 4 + 1, none⟩) hb9).trans x1⟩)
      go_cut [8] (fun s wx => ∃ (a8 : Option Addr) (c8 : Nat), s = .slice a8 d c8 ∧ Hid (OwnI wx w9.heap.size (.slice a8 d c8) (wids (l.eraseIdx i0) (far (l.eraseIdx i0) 0 F) T d) ∧ Below w9.heap.size w9 wx))
      case first =>
        go_region_held3 (fun w' => (w'.cell? ⟨w.heap.size, 1, none⟩ = some (.slice (some ⟨b0, off0, none⟩) n c) ∧ w'.cell? ⟨w7.heap.size, 0, none⟩ = some (.int .i64 M) ∧ w'.cell? ⟨w7.heap.size, 1, none⟩ = some (.slice a7 (n - 1) c7) ∧ w'.cell? ⟨b0, off0 + i0 * 4 + 1, none⟩ = some (.int .i64 F))) (first | go_keep | exact KR.out _ (by first | assumption | go_grown))
          (first | (go_at_call 76; refine (s_l2Way M T F _ _ _ (l.eraseIdx i0) _ ((OwnS.at qf_len W9.out.2.1).below (by go_grown)) (HGE i0).out HFT.out.2 HFT.out.1 d (by have := HFAR.out; rw [HFF.out, HTT.out] at this; exact this)).mono ?_; rintro e w8 ⟨a8, c8, rfl, ho8, hb8⟩; have hbA : Below w9.heap.size w9 w8 := (bstep ((Below.refl _ _).drew : Below w9.heap.size w9 w9.drew) hb8)))
        all_goals (go_wp2_with fail; go_meet)
        all_goals exact ⟨_, _, rfl, hid ⟨ho8, hbA⟩⟩
      case rest =>
        obtain ⟨a8, c8, rfl, hx⟩ := hcut
        have W8 := hid (show OwnI wc wA.heap.size (.slice (some ⟨gl, 0, none⟩) n c') (sigs l i0 v q 0) ∧ Below wA.heap.size wA wc from ⟨W9.out.1.below hx.out.2, bstep W9.out.2.2 hx.out.2⟩)
        have HO8 := hid (hx.out.1)
        have hgl9 : gl < w9.heap.size := by omega
        clear n0 n1 x1 x2 r0 r1 hr9 hz9 hb9 hx KR
        go_wp2
        go_loopg [7, 9] d (fun g fr i wr => ∃ j V : Nat, j ≤ d ∧ g = d - j ∧ fr = .int .i64 V ∧ i = .int .i64 j ∧ Hid (v j = V) ∧ Hid (OwnI wr wA.heap.size (.slice (some ⟨gl, 0, none⟩) n c') (sigs l i0 v q j) ∧ wc.grownBy wr (some gl)))
        case atStart => exact ⟨0, T, Nat.zero_le _, rfl, rfl, rfl, hid (HL.out.v0.trans HTT.out), hid ⟨W8.out.1, grown_of_below (Below.refl _ _) _⟩⟩
        case round =>
          obtain ⟨j, V, hj, rfl, rfl, rfl, hV, hh⟩ := hrel
          have HB1 := hid (show Below wA.heap.size wA wr from W8.out.2.grown hh.out.2 W8.out.2.size (fun k hk => by simp at hk; omega))
          obtain ⟨n0, n1⟩ := KA.out _ HB1.out
          have hz1 : w.heap.size < wr.heap.size := World.block_lt_of_cell? wr _ n0
          by_cases hlt : j < d
          · obtain ⟨K, hK⟩ : ∃ K, q j = K := ⟨_, rfl⟩
            have HK := hid hK
            have hKl : K < l.length := by have := HL.out.qlt j hlt; rw [hK] at this; exact this
            have hKn : K < n := by have := HLN.out; omega
            have HO9 := hid (HO8.out.kept hh.out.2 (by
              cases e : Value.ownBlock (.slice a8 d c8) with
              | none => exact .inl rfl
              | some k => exact .inr (fun e2 => by have h9 := (HO8.out.lt k e).1; have h8 : some k = some gl := e2; have h7 := Option.some.inj h8; omega)))
            obtain ⟨g8, rfl, hg81, hg82⟩ := own_some HO9.out (by omega)
            have hcw := HO9.out.cell (k := j) hlt
            have hwj := HWAY.out j hlt
            rw [HFF.out, HTT.out, hK] at hwj
            rw [hwj] at hcw
            obtain ⟨b1, off1, e1, hbw, x0, x1, x2, x3⟩ := QAt.get (H.out.below (bstep BA.out HB1.out)) K hKn
            simp only [Option.some.injEq, Addr.mk.injEq] at e1
            obtain ⟨rfl, rfl, -⟩ := e1
            have HP := hid (goodNet_pipe HG.out hKl)
            obtain ⟨F2, hF2⟩ : ∃ F2 : Nat, (pp l K).2.1 = F2 := ⟨(pp l K).2.1.toNat, by have := HP.out.2.1; omega⟩
            obtain ⟨T2, hT2⟩ : ∃ T2 : Nat, (pp l K).2.2.1 = T2 := ⟨(pp l K).2.2.1.toNat, by have := HP.out.2.2.1; omega⟩
            have HF2 := hid hF2
            have HT2 := hid hT2
            have HFQ := hid (findQ_at HG.out hKl)
            rw [hF2] at x1
            rw [hT2] at x2
            have HEND := hid (HL.out.ends hlt)
            rw [hK, hV.out, hF2, hT2] at HEND
            have X := hid (show AlongC w wr M b0 off0 n c g8 j (pp l K).1 wr.drew from ⟨(Below.refl _ _).drew, n0, n1, hcw⟩)
            have k0 : (0 : Int) ≤ (K : Int) := by omega
            have k1 : (K : Int) < (n : Int) := by omega
            clear hK hF2 hT2 hcw hwj n0 hKl
            go_upto_region 16 with fail
            refine wp_region_calm (C := (fun w' => Below wr.heap.size wr w' ∧ w'.cell? ⟨w.heap.size, 0, none⟩ = some (.int .i64 M) ∧ w'.cell? ⟨w.heap.size, 1, none⟩ = some (.slice (some ⟨b0, off0, none⟩) n c) ∧ w'.cell? ⟨g8, j, none⟩ = some (.int .i64 (pp l K).1))) (by kernel_rfl) (by kernel_rfl) (X.out) ?_
            repeat
              first
                | go_big_quiet_skip
                | (go_big_quiet_want
                   first
                     | (unfold Oper.quiet
                        apply Exists.intro
                        refine ⟨fun wq hq => ?_, ?_⟩
                        · (try dsimp only at hq
                           simp [go_sem, Oper.quietAt, Oper.quietUpon, BigFrame.eval_const, BigFrame.eval_global, BigFrame.eval_func, ↓IntWalk.iteOmega, *]
                           first | done | rfl | (refine calm_call hq (AlongC.keep w wr M b0 off0 n c g8 j (pp l K).1) (s_l2Find _ _ _ _ _ l _ (H.out.below (bstep (bstep BA.out HB1.out) hq.1)) (by omega)) (by rw [HFQ.out])))
                        simp only [Act.put, List.setIfInBounds_toArray, List.set_cons_succ, List.set_cons_zero]
                        go_big_quiet_on))
            refine wpQuiet_nil ?_
            intro wc hcalm
            try dsimp only at hcalm
            have HC := hid (hcalm.1 : Below wr.heap.size wr _)
            have n1' := hcalm.2.2.1
            clear hcalm X n1
            obtain ⟨wC, hwC⟩ : ∃ W, W = wc := ⟨_, rfl⟩
            subst hwC
            have y0 := (HC.out.cell (p := ⟨b0, off0 + K * 4, none⟩) hbw).trans x0
            have y1 := (HC.out.cell (p := ⟨b0, off0 + K * 4 + 1, none⟩) hbw).trans x1
            have y2 := (HC.out.cell (p := ⟨b0, off0 + K * 4 + 2, none⟩) hbw).trans x2
            have y3 := (HC.out.cell (p := ⟨b0, off0 + K * 4 + 3, none⟩) hbw).trans x3
            have HS5 := hid (hh.out.1.below HC.out)
            have hgw := (HS5.out.lt gl rfl).2
            have cS := HS5.out.cell (k := K) hKn
            have fS := HS5.out.frozen (k := K)
            have hgw2 : ¬ gl = wC.heap.size := by omega
            have hgw3 : ¬ wC.heap.size = gl := by omega
            have hdM : d ≤ 8 := by
              have h1 := HFAR.out
              have h2 := far_lt (wo := 0) (v := (pp l i0).2.2.1) (HGE i0).out HP0.out.2.1 HP0.out.2.2.1.1 HP0.out.2.2.1.2
              omega
            clear x0 x1 x2 x3 hbw
            by_cases eF : F2 = V
            · have hsgn : sgn l v q j = 1 := by
                unfold sgn
                rw [HK.out, hV.out, if_pos]
                have := HF2.out
                omega
              have HNX := hid (show v (j + 1) = (T2 : Int) from by
                have h1 := HEND.out
                have h2 := HP.out.2.2.2.1
                have h3 := HF2.out
                have h4 := HT2.out
                omega)
              subst eF
              have SS := hid (HS5.out.set (k := K) (1))
              have HE := hid (show sigs l i0 v q (j + 1) = (sigs l i0 v q j).set K (1) from by
                show (sigs l i0 v q j).set (q j) (sgn l v q j) = _
                rw [hsgn, HK.out])
              clear hsgn
              go_wp2
              go_roundg (d - (j + 1))
              case rel => exact ⟨j + 1, T2, by omega, rfl, rfl, by go_num, HNX, hid ⟨by rw [HE.out]; exact SS.out.1.alloc _, grownBy_trans (grownBy_trans (grownBy_trans hh.out.2 (grown_of_below HC.out _)) SS.out.2) (grown_of_below (by go_grown) _)⟩⟩
              case measure => omega
            · have hsgn : sgn l v q j = -1 := by
                unfold sgn
                rw [HK.out, hV.out, if_neg]
                have := HF2.out
                omega
              have HNX := hid (show v (j + 1) = (F2 : Int) from by
                have h1 := HEND.out
                omega)
              have hFV : ((F2 : Int) == (V : Int)) = false := by simp; omega
              have SS := hid (HS5.out.set (k := K) (-1))
              have HE := hid (show sigs l i0 v q (j + 1) = (sigs l i0 v q j).set K (-1) from by
                show (sigs l i0 v q j).set (q j) (sgn l v q j) = _
                rw [hsgn, HK.out])
              clear hsgn
              go_wp2
              go_roundg (d - (j + 1))
              case rel => exact ⟨j + 1, F2, by omega, rfl, rfl, by go_num, HNX, hid ⟨by rw [HE.out]; exact SS.out.1.alloc _, grownBy_trans (grownBy_trans (grownBy_trans hh.out.2 (grown_of_below HC.out _)) SS.out.2) (grown_of_below (by go_grown) _)⟩⟩
              case measure => omega
          · obtain rfl : d = j := by omega
            go_wp2
            go_ret
            exact ⟨_, _, rfl, hh.out.1.mono BA.out.size, bstep BA.out HB1.out⟩

end Go.Proofs.Ytikjighlnpdgiaa

/-
  Rings: the program's check.
-/
set_option linter.unusedVariables false
set_option linter.unusedSimpArgs false
namespace Go.Proofs.Ytikjighlnpdgiaa
open Go.RowKit

theorem i_hasRing (N : Int) (a : Option Addr) (n c : Nat) (l : List Pip) (w : World) (h : QAt w a n l) (hn : n ≤ 1048576) :
    Calls Try.prog 40 #[.agg #[.int .i64 N, .slice a n c]] w fun e w' => e = .returned (.bool (goodNet N l && ringB N l)) ∧ Below w.heap.size w w' := by
  have H := hid h
  clear h
  cases h1 : goodNet N l
  · have HG := hid h1
    clear h1
    go_enter Try.func40, Try.ntmps40
    go_wp2_with fail
    refine (i_IsValidNetwork N _ _ _ l _ (H.out.below (by go_grown)) (by omega)).mono ?_
    rintro e w1 ⟨rfl, hb1⟩
    rw [HG.out]
    obtain ⟨hc_w1, hf_w1⟩ := bcell hb1
    have hz_w1_0 : w.heap.size < w1.heap.size := by have := hb1.size; simp only [World.size_alloc] at this; omega
    have HB1 := hid (bstep (by go_grown) hb1 : Below w.heap.size w w1)
    go_wp2
    go_ret
    exact ⟨rfl, HB1.out⟩
  · have hN := (goodNet_get h1).1
    obtain ⟨M, rfl⟩ : ∃ M : Nat, N = M := ⟨N.toNat, by omega⟩
    have HG := hid h1
    clear h1
    go_enter Try.func40, Try.ntmps40
    go_wp2_with fail
    refine (i_IsValidNetwork M _ _ _ l _ (H.out.below (by go_grown)) (by omega)).mono ?_
    rintro e w1 ⟨rfl, hb1⟩
    rw [HG.out]
    obtain ⟨hc_w1, hf_w1⟩ := bcell hb1
    have hz_w1_0 : w.heap.size < w1.heap.size := by have := hb1.size; simp only [World.size_alloc] at this; omega
    have HB1 := hid (bstep (by go_grown) hb1 : Below w.heap.size w w1)
    go_wp2_with fail
    refine (i_isRing M _ _ _ l _ (H.out.below HB1.out) HG.out).mono ?_
    rintro e w2 ⟨rfl, hb2⟩
    go_wp2
    go_ret
    exact ⟨rfl, bstep HB1.out hb2⟩

end Go.Proofs.Ytikjighlnpdgiaa

/-
  TurnFlows, in the program and in the reference.
-/
set_option linter.unusedVariables false
set_option linter.unusedSimpArgs false
namespace Go.Proofs.Ytikjighlnpdgiaa
open Go.RowKit

/-- Flows turned around a loop, the first k of them. -/
def turnF (S fs : List Int) (x : Int) : Nat → List Int
  | 0 => fs
  | k + 1 => (turnF S fs x k).set k ((turnF S fs x k)[k]?.getD 0 + S[k]?.getD 0 * x)
theorem turnF_len (S fs : List Int) (x : Int) : ∀ k, (turnF S fs x k).length = fs.length
  | 0 => rfl
  | k + 1 => by rw [turnF, List.length_set, turnF_len S fs x k]
theorem turnF_rest (S fs : List Int) (x : Int) : ∀ k i : Nat, k ≤ i → (turnF S fs x k)[i]?.getD 0 = fs[i]?.getD 0
  | 0, _, _ => rfl
  | k + 1, i, h => by
    rw [turnF, List.getElem?_set_ne (by omega)]
    exact turnF_rest S fs x k i (by omega)
theorem turnF_get (S fs : List Int) (x : Int) : ∀ k i : Nat, i < k → k ≤ fs.length → (turnF S fs x k)[i]?.getD 0 = fs[i]?.getD 0 + S[i]?.getD 0 * x
  | 0, _, h, _ => by omega
  | k + 1, i, h, hk => by
    rw [turnF, set_at (by rw [turnF_len]; omega)]
    split
    · rename_i e
      subst e
      rw [turnF_rest S fs x k k (Nat.le_refl _)]
    · exact turnF_get S fs x k i (by omega) (by omega)
theorem sign_mul {s x A : Int} (hs : -1 ≤ s ∧ s ≤ 1) (hx : -A ≤ x ∧ x ≤ A) : -A ≤ s * x ∧ s * x ≤ A := by
  have h3 : s = -1 ∨ s = 0 ∨ s = 1 := by omega
  rcases h3 with h3 | h3 | h3 <;> rw [h3] <;> omega

set_option maxHeartbeats 4000000 in
theorem i_turnFlows (a b : Option Addr) (n c d : Nat) (S fs : List Int) (x : Int) (w : World) (h : IntsAt w a n S) (h' : IntsAt w b n fs) (hn : n ≤ 10) (h0 : 0 < n) (hs : ∀ i : Nat, i < n → -1 ≤ S[i]?.getD 0 ∧ S[i]?.getD 0 ≤ 1) (hf : ∀ y ∈ fs, -8000 ≤ y ∧ y ≤ 8000) (hx : -8000 ≤ x ∧ x ≤ 8000) :
    Calls Try.prog 50 #[.slice a n c, .slice b n d, .int .i64 x] w fun e w' => ∃ a' c', e = .returned (.slice a' n c') ∧ OwnI w' w.heap.size (.slice a' n c') (turnF S fs x n) ∧ Below w.heap.size w w' := by
  have H := hid h
  have H' := hid h'
  have HS := hid hs
  have HF := hid hf
  have HL := hid h'.1
  clear h h' hs hf
  go_enter Try.func50, Try.ntmps50
  go_wp2_with fail
  refine (i_copyInts _ _ _ fs _ H'.out (by omega)).mono ?_
  rintro e w1 ⟨a1, c1, rfl, ho1, hb1⟩
  obtain ⟨g1, rfl, hg1, hg2⟩ := own_some ho1 h0
  have HO1 := hid ho1
  have HB1 := hid hb1
  clear ho1 hb1
  go_wp2
  go_loopg [14] n (fun g i wr => ∃ k : Nat, k ≤ n ∧ g = n - k ∧ i = .int .i64 k ∧ Hid (OwnI wr w.heap.size (.slice (some ⟨g1, 0, none⟩) n c1) (turnF S fs x k) ∧ w1.grownBy wr (some g1)))
  case atStart => exact ⟨0, Nat.zero_le _, rfl, rfl, hid ⟨HO1.out, grown_of_below (Below.refl _ _) _⟩⟩
  case round =>
    obtain ⟨k, hk, rfl, rfl, hh⟩ := hrel
    have HBW := hid (show Below w.heap.size w wr from HB1.out.grown hh.out.2 HB1.out.size (fun k hk => by simp at hk; omega))
    by_cases hlt : k < n
    · obtain ⟨b0, off0, rfl, hbw, hcl⟩ := (H.out).2 k hlt
      have hcl2 := (HBW.out.cell (p := ⟨b0, off0 + k, none⟩) hbw).trans hcl
      have hbg : ¬ b0 = g1 := by have : b0 < w.heap.size := hbw; omega
      have hbg2 : ¬ g1 = b0 := by omega
      have hbz : b0 < wr.heap.size := World.block_lt_of_cell? wr _ hcl2
      have hoc := hh.out.1.cell (k := k) hlt
      have hof := hh.out.1.frozen (k := k)
      have hgw := (hh.out.1.lt g1 rfl).2
      have hv := turnF_rest S fs x k k (Nat.le_refl _)
      have hfq := HF.out _ (getD_mem fs k (by have := HL.out; omega))
      have hsx := sign_mul (A := 8000) (HS.out k hlt) hx
      have SS := hid (hh.out.1.set (k := k) ((turnF S fs x k)[k]?.getD 0 + S[k]?.getD 0 * x))
      have HE := hid (show turnF S fs x (k + 1) = (turnF S fs x k).set k ((turnF S fs x k)[k]?.getD 0 + S[k]?.getD 0 * x) from rfl)
      rw [← hv] at hfq
      obtain ⟨vf, hvf⟩ : ∃ vf, (turnF S fs x k)[k]?.getD 0 = vf := ⟨_, rfl⟩
      obtain ⟨vs, hvs⟩ : ∃ vs, S[k]?.getD 0 = vs := ⟨_, rfl⟩
      rw [hvf] at hoc hfq SS HE
      rw [hvs] at hcl2 hsx SS HE
      have hw1 := IntWalk.i64_in (vs * x) (by omega)
      have hw2 := IntWalk.i64_in (vf + vs * x) (by omega)
      clear hv hvf hvs hcl
      go_wp2
      go_roundg (n - (k + 1))
      case rel => exact ⟨k + 1, by omega, rfl, by go_num, hid ⟨by rw [HE.out]; exact SS.out.1, grownBy_trans hh.out.2 SS.out.2⟩⟩
      case measure => omega
    · obtain rfl : n = k := by omega
      go_wp2
      go_ret
      exact ⟨_, _, rfl, hh.out.1, HBW.out⟩

set_option maxHeartbeats 4000000 in
theorem s_l10Turn (a b : Option Addr) (n c d : Nat) (S fs : List Int) (x : Int) (w : World) (h : IntsAt w a n S) (h' : IntsAt w b n fs) (hn : n ≤ 10) (h0 : 0 < n) (hs : ∀ i : Nat, i < n → -1 ≤ S[i]?.getD 0 ∧ S[i]?.getD 0 ≤ 1) (hf : ∀ y ∈ fs, -8000 ≤ y ∧ y ≤ 8000) (hx : -8000 ≤ x ∧ x ≤ 8000) :
    Calls Try.prog 37 #[.slice a n c, .slice b n d, .int .i64 x] w fun e w' => ∃ a' c', e = .returned (.slice a' n c') ∧ OwnI w' w.heap.size (.slice a' n c') (turnF S fs x n) ∧ Below w.heap.size w w' := by
  have H := hid h
  have H' := hid h'
  have HS := hid hs
  have HF := hid hf
  have HL := hid h'.1
  clear h h' hs hf
  go_enter Try.func37, Try.ntmps37
  go_wp2_with fail
  refine (s_l1Own _ _ _ fs _ H'.out (by omega)).mono ?_
  rintro e w1 ⟨a1, c1, rfl, ho1, hb1⟩
  obtain ⟨g1, rfl, hg1, hg2⟩ := own_some ho1 h0
  have HO1 := hid ho1
  have HB1 := hid hb1
  clear ho1 hb1
  go_wp2
  go_loopg [8] n (fun g i wr => ∃ k : Nat, k ≤ n ∧ g = n - k ∧ i = .int .i64 k ∧ Hid (OwnI wr w.heap.size (.slice (some ⟨g1, 0, none⟩) n c1) (turnF S fs x k) ∧ w1.grownBy wr (some g1)))
  case atStart => exact ⟨0, Nat.zero_le _, rfl, rfl, hid ⟨HO1.out, grown_of_below (Below.refl _ _) _⟩⟩
  case round =>
    obtain ⟨k, hk, rfl, rfl, hh⟩ := hrel
    have HBW := hid (show Below w.heap.size w wr from HB1.out.grown hh.out.2 HB1.out.size (fun k hk => by simp at hk; omega))
    by_cases hlt : k < n
    · obtain ⟨b0, off0, rfl, hbw, hcl⟩ := (H.out).2 k hlt
      have hcl2 := (HBW.out.cell (p := ⟨b0, off0 + k, none⟩) hbw).trans hcl
      have hbg : ¬ b0 = g1 := by have : b0 < w.heap.size := hbw; omega
      have hbg2 : ¬ g1 = b0 := by omega
      have hbz : b0 < wr.heap.size := World.block_lt_of_cell? wr _ hcl2
      have hoc := hh.out.1.cell (k := k) hlt
      have hof := hh.out.1.frozen (k := k)
      have hgw := (hh.out.1.lt g1 rfl).2
      have hv := turnF_rest S fs x k k (Nat.le_refl _)
      have hfq := HF.out _ (getD_mem fs k (by have := HL.out; omega))
      have hsx := sign_mul (A := 8000) (HS.out k hlt) hx
      have HE := hid (show turnF S fs x (k + 1) = (turnF S fs x k).set k ((turnF S fs x k)[k]?.getD 0 + S[k]?.getD 0 * x) from rfl)
      rw [← hv] at hfq
      obtain ⟨vf, hvf⟩ : ∃ vf, (turnF S fs x k)[k]?.getD 0 = vf := ⟨_, rfl⟩
      obtain ⟨vs, hvs⟩ : ∃ vs, S[k]?.getD 0 = vs := ⟨_, rfl⟩
      rw [hvf] at hoc hfq HE
      rw [hvs] at hcl2 hsx HE
      have hw1 := IntWalk.i64_in (vs * x) (by omega)
      have hw2 := IntWalk.i64_in (vf + vs * x) (by omega)
      have SS := hid ((hh.out.1.below ((Below.refl _ _).drew : Below wr.heap.size wr wr.drew)).set (k := k) (vf + vs * x))
      clear hv hvf hvs hcl
      go_upto_region 5 with fail
      first
        | (go_region_law fail)
        | fail
      all_goals
        go_wp2
        go_roundg (n - (k + 1))
        case rel => exact ⟨k + 1, by omega, rfl, by go_num, hid ⟨by rw [HE.out]; exact SS.out.1, grownBy_trans (grownBy_trans hh.out.2 (grown_of_below ((Below.refl _ _).drew) _)) SS.out.2⟩⟩
        case measure => omega
    · obtain rfl : n = k := by omega
      go_wp2
      go_ret
      exact ⟨_, _, rfl, hh.out.1, HBW.out⟩

end Go.Proofs.Ytikjighlnpdgiaa

/-
  TurnFlows, in the program and in the reference: the answers.
-/
set_option linter.unusedVariables false
set_option linter.unusedSimpArgs false
namespace Go.Proofs.Ytikjighlnpdgiaa
open Go.RowKit

/-- What TurnFlows returns. -/
noncomputable def turnR (N : Int) (l : List Pip) (fs : List Int) (x : Int) : List Int × Bool := if (goodNet N l && ringB N l) = true ∧ goodFl l.length fs = true ∧ inR x (-8000) 8000 = true ∧ goodFl l.length (turnF (loopS l) fs x l.length) = true then (turnF (loopS l) fs x l.length, true) else ([], false)
theorem turnR_no {N : Int} {l : List Pip} {fs : List Int} {x : Int} (h : (goodNet N l && ringB N l) = false ∨ goodFl l.length fs = false ∨ inR x (-8000) 8000 = false ∨ goodFl l.length (turnF (loopS l) fs x l.length) = false) : turnR N l fs x = ([], false) := by
  unfold turnR
  rw [if_neg]
  rintro ⟨h1, h2, h3, h4⟩
  rcases h with h | h | h | h
  · rw [h1] at h; cases h
  · rw [h2] at h; cases h
  · rw [h3] at h; cases h
  · rw [h4] at h; cases h
theorem turnR_len {N : Int} {l : List Pip} {fs : List Int} {x : Int} {R : List Int} {b : Bool} (h : turnR N l fs x = (R, b)) : R.length ≤ 1000 := by
  unfold turnR at h
  split at h
  · rename_i h1
    cases h
    rw [turnF_len, (goodFl_iff.1 h1.2.1).1]
    have := (goodNet_get ((Bool.and_eq_true _ _).mp h1.1).1).2.1
    omega
  · cases h; simp

set_option maxRecDepth 100000 in
set_option maxHeartbeats 4000000 in
theorem i_TurnFlows (N x : Int) (a b : Option Addr) (n c m d : Nat) (l : List Pip) (fs : List Int) (w : World) (h : QAt w a n l) (h' : IntsAt w b m fs) (hn : n ≤ 1048576) (hm : m ≤ 1048576) (R : List Int) (q : Bool) (hR : turnR N l fs x = (R, q)) :
    Calls Try.prog 20 #[.agg #[.int .i64 N, .slice a n c], .slice b m d, .int .i64 x] w fun e w' => ∃ a' c', e = .returned (.tuple #[.slice a' R.length c', .bool q]) ∧ OwnI w' w.heap.size (.slice a' R.length c') R ∧ Below w.heap.size w w' := by
  have hl := h.1
  have H := hid h
  have H' := hid h'
  clear h h'
  cases h12 : (goodNet N l && ringB N l)
  · rw [turnR_no (.inl h12)] at hR
    cases hR
    obtain ⟨M, rfl⟩ : ∃ M : Int, M = N := ⟨_, rfl⟩
    have HF := hid h12
    clear h12 hl
    go_enter Try.func20, Try.ntmps20
    go_upto_region 1 with fail
    have BA := hid (by go_grown : Below w.heap.size w (w.alloc (.cells #[.int .i64 M, .slice a n c] 31)))
    have N0 := hid (cell_of_row _ _ 0 _ _ (0, 0) (heap_alloc_new w (.cells #[.int .i64 M, .slice a n c] 31)))
    have N1 := hid (cell_of_row _ _ 1 _ _ (0, 0) (heap_alloc_new w (.cells #[.int .i64 M, .slice a n c] 31)))
    have hzA : w.heap.size < (w.alloc (.cells #[.int .i64 M, .slice a n c] 31)).heap.size := by simp
    have n0 := N0.out
    have n1 := N1.out
    simp only [List.getElem?_toArray, List.getElem?_cons_zero, List.getElem?_cons_succ] at n0 n1
    generalize w.alloc (.cells #[.int .i64 M, .slice a n c] 31) = wA at *
    have KA := hid (show ∀ wx, Below wA.heap.size wA wx → (wx.cell? ⟨w.heap.size, 0, none⟩ = some (.int .i64 M) ∧ wx.cell? ⟨w.heap.size, 1, none⟩ = some (.slice a n c)) from fun wx hb => ⟨(hb.cell (p := ⟨w.heap.size, 0, none⟩) hzA).trans n0, (hb.cell (p := ⟨w.heap.size, 1, none⟩) hzA).trans n1⟩)
    go_wp2_with fail
    refine (i_hasRing M _ _ _ l _ (H.out.below BA.out) hn).mono ?_
    rintro e w1 ⟨rfl, hb1⟩
    rw [HF.out]
    have HB1 := hid hb1
    obtain ⟨n0', n1'⟩ := KA.out _ hb1
    have hz1 : w.heap.size < w1.heap.size := World.block_lt_of_cell? w1 _ n0'
    clear n0 n1 hb1
    go_wp2
    go_ret2
    exact ⟨_, _, rfl, OwnI.nil _ _, bstep BA.out HB1.out⟩
  · obtain ⟨h1, h2⟩ := (Bool.and_eq_true _ _).mp h12
    have hN := (goodNet_get h1).1
    obtain ⟨M, rfl⟩ : ∃ M : Nat, N = M := ⟨N.toNat, by omega⟩
    have HF := hid h12
    cases h3 : goodFl n fs
    · rw [turnR_no (.inr (.inl (by rw [hl]; exact h3)))] at hR
      cases hR
      have H3 := hid h3
      clear h1 h2 h12 h3 hl hN
      go_enter Try.func20, Try.ntmps20
      go_upto_region 1 with fail
      have BA := hid (by go_grown : Below w.heap.size w (w.alloc (.cells #[.int .i64 M, .slice a n c] 31)))
      have N0 := hid (cell_of_row _ _ 0 _ _ (0, 0) (heap_alloc_new w (.cells #[.int .i64 M, .slice a n c] 31)))
      have N1 := hid (cell_of_row _ _ 1 _ _ (0, 0) (heap_alloc_new w (.cells #[.int .i64 M, .slice a n c] 31)))
      have hzA : w.heap.size < (w.alloc (.cells #[.int .i64 M, .slice a n c] 31)).heap.size := by simp
      have n0 := N0.out
      have n1 := N1.out
      simp only [List.getElem?_toArray, List.getElem?_cons_zero, List.getElem?_cons_succ] at n0 n1
      generalize w.alloc (.cells #[.int .i64 M, .slice a n c] 31) = wA at *
      have KA := hid (show ∀ wx, Below wA.heap.size wA wx → (wx.cell? ⟨w.heap.size, 0, none⟩ = some (.int .i64 M) ∧ wx.cell? ⟨w.heap.size, 1, none⟩ = some (.slice a n c)) from fun wx hb => ⟨(hb.cell (p := ⟨w.heap.size, 0, none⟩) hzA).trans n0, (hb.cell (p := ⟨w.heap.size, 1, none⟩) hzA).trans n1⟩)
      go_wp2_with fail
      refine (i_hasRing M _ _ _ l _ (H.out.below BA.out) hn).mono ?_
      rintro e w1 ⟨rfl, hb1⟩
      rw [HF.out]
      have HB1 := hid hb1
      obtain ⟨n0', n1'⟩ := KA.out _ hb1
      have hz1 : w.heap.size < w1.heap.size := World.block_lt_of_cell? w1 _ n0'
      clear n0 n1 hb1
      go_wp2_with fail
      refine (i_areFlows _ _ _ n _ _ _ fs _ (H'.out.below (bstep BA.out HB1.out)) hm).mono ?_
      rintro e w3 ⟨rfl, hb3⟩
      rw [H3.out]
      have HB3 := hid (bstep HB1.out hb3)
      go_wp2
      go_ret2
      exact ⟨_, _, rfl, OwnI.nil _ _, bstep BA.out HB3.out⟩
    · have hmn : n = m := by have := (goodFl_iff.1 h3).1; have := H'.out.1; omega
      obtain rfl : n = m := hmn
      have H3 := hid h3
      cases h4 : inR x (-8000) 8000
      · rw [turnR_no (.inr (.inr (.inl h4)))] at hR
        cases hR
        have H4 := hid h4
        clear h1 h2 h12 h3 h4 hl hN
        go_enter Try.func20, Try.ntmps20
        go_upto_region 1 with fail
        have BA := hid (by go_grown : Below w.heap.size w (w.alloc (.cells #[.int .i64 M, .slice a n c] 31)))
        have N0 := hid (cell_of_row _ _ 0 _ _ (0, 0) (heap_alloc_new w (.cells #[.int .i64 M, .slice a n c] 31)))
        have N1 := hid (cell_of_row _ _ 1 _ _ (0, 0) (heap_alloc_new w (.cells #[.int .i64 M, .slice a n c] 31)))
        have hzA : w.heap.size < (w.alloc (.cells #[.int .i64 M, .slice a n c] 31)).heap.size := by simp
        have n0 := N0.out
        have n1 := N1.out
        simp only [List.getElem?_toArray, List.getElem?_cons_zero, List.getElem?_cons_succ] at n0 n1
        generalize w.alloc (.cells #[.int .i64 M, .slice a n c] 31) = wA at *
        have KA := hid (show ∀ wx, Below wA.heap.size wA wx → (wx.cell? ⟨w.heap.size, 0, none⟩ = some (.int .i64 M) ∧ wx.cell? ⟨w.heap.size, 1, none⟩ = some (.slice a n c)) from fun wx hb => ⟨(hb.cell (p := ⟨w.heap.size, 0, none⟩) hzA).trans n0, (hb.cell (p := ⟨w.heap.size, 1, none⟩) hzA).trans n1⟩)
        go_wp2_with fail
        refine (i_hasRing M _ _ _ l _ (H.out.below BA.out) hn).mono ?_
        rintro e w1 ⟨rfl, hb1⟩
        rw [HF.out]
        have HB1 := hid hb1
        obtain ⟨n0', n1'⟩ := KA.out _ hb1
        have hz1 : w.heap.size < w1.heap.size := World.block_lt_of_cell? w1 _ n0'
        clear n0 n1 hb1
        go_wp2_with fail
        refine (i_areFlows _ _ _ n _ _ _ fs _ (H'.out.below (bstep BA.out HB1.out)) hm).mono ?_
        rintro e w3 ⟨rfl, hb3⟩
        rw [H3.out]
        have HB3 := hid (bstep HB1.out hb3)
        go_wp2_with fail
        refine (i_inside _ _ _ _).mono ?_
        rintro e _ ⟨rfl, rfl⟩
        rw [H4.out]
        go_wp2
        go_ret2
        exact ⟨_, _, rfl, OwnI.nil _ _, bstep BA.out HB3.out⟩
      · have H4 := hid h4
        have hx := inR_iff.1 h4
        have HLN := hid hl
        have HFL := hid (goodFl_iff.1 h3)
        have HG := hid h1
        have HR := hid h2
        have hn10 : n ≤ 10 := by have := (goodNet_get h1).2.1; omega
        have hn0 : 0 < n := by have := ((ringB_iff h1).1 h2).1; have := (goodNet_get h1).1; omega
        have HSG := hid (show ∀ i : Nat, i < n → -1 ≤ (loopS l)[i]?.getD 0 ∧ (loopS l)[i]?.getD 0 ≤ 1 from fun i hi => loopS_fit l (by omega))
        cases h5 : goodFl n (turnF (loopS l) fs x n)
        · rw [turnR_no (.inr (.inr (.inr (by rw [hl]; exact h5))))] at hR
          cases hR
          have H5 := hid h5
          clear h1 h2 h12 h3 h4 h5 hl hN
          go_enter Try.func20, Try.ntmps20
          go_upto_region 1 with fail
          have BA := hid (by go_grown : Below w.heap.size w (w.alloc (.cells #[.int .i64 M, .slice a n c] 31)))
          have N0 := hid (cell_of_row _ _ 0 _ _ (0, 0) (heap_alloc_new w (.cells #[.int .i64 M, .slice a n c] 31)))
          have N1 := hid (cell_of_row _ _ 1 _ _ (0, 0) (heap_alloc_new w (.cells #[.int .i64 M, .slice a n c] 31)))
          have hzA : w.heap.size < (w.alloc (.cells #[.int .i64 M, .slice a n c] 31)).heap.size := by simp
          have n0 := N0.out
          have n1 := N1.out
          simp only [List.getElem?_toArray, List.getElem?_cons_zero, List.getElem?_cons_succ] at n0 n1
          generalize w.alloc (.cells #[.int .i64 M, .slice a n c] 31) = wA at *
          have KA := hid (show ∀ wx, Below wA.heap.size wA wx → (wx.cell? ⟨w.heap.size, 0, none⟩ = some (.int .i64 M) ∧ wx.cell? ⟨w.heap.size, 1, none⟩ = some (.slice a n c)) from fun wx hb => ⟨(hb.cell (p := ⟨w.heap.size, 0, none⟩) hzA).trans n0, (hb.cell (p := ⟨w.heap.size, 1, none⟩) hzA).trans n1⟩)
          go_wp2_with fail
          refine (i_hasRing M _ _ _ l _ (H.out.below BA.out) hn).mono ?_
          rintro e w1 ⟨rfl, hb1⟩
          rw [HF.out]
          have HB1 := hid hb1
          obtain ⟨n0', n1'⟩ := KA.out _ hb1
          have hz1 : w.heap.size < w1.heap.size := World.block_lt_of_cell? w1 _ n0'
          clear n0 n1 hb1
          go_wp2_with fail
          refine (i_areFlows _ _ _ n _ _ _ fs _ (H'.out.below (bstep BA.out HB1.out)) hm).mono ?_
          rintro e w3 ⟨rfl, hb3⟩
          rw [H3.out]
          have HB3 := hid (bstep HB1.out hb3)
          go_wp2_with fail
          refine (i_inside _ _ _ _).mono ?_
          rintro e _ ⟨rfl, rfl⟩
          rw [H4.out]
          obtain ⟨k0, k1⟩ := KA.out _ HB3.out
          clear hb3
          go_wp2_with fail
          refine (i_loopOf M _ _ _ l _ (H.out.below (bstep BA.out HB3.out)) HG.out HR.out).mono ?_
          rintro e w4 ⟨a4, c4, rfl, ho4, hb4⟩
          have HB4 := hid (bstep HB3.out hb4)
          have HO4 := hid ho4
          clear k0 k1 ho4 hb4
          go_wp2_with fail
          refine (i_turnFlows _ _ _ _ _ _ fs x _ HO4.out.at (H'.out.below (bstep BA.out HB4.out)) hn10 hn0 HSG.out HFL.out.2 hx).mono ?_
          rintro e w5 ⟨a5, c5, rfl, ho5, hb5⟩
          have HB5 := hid (bstep HB4.out hb5)
          have HO5 := hid ho5
          obtain ⟨k0, k1⟩ := KA.out _ HB5.out
          clear ho5 hb5
          go_wp2_with fail
          refine (i_areFlows _ _ _ n _ _ _ (turnF (loopS l) fs x n) _ HO5.out.at hm).mono ?_
          rintro e w6 ⟨rfl, hb6⟩
          rw [H5.out]
          have HB6 := hid (bstep HB5.out hb6)
          go_wp2
          go_ret2
          exact ⟨_, _, rfl, OwnI.nil _ _, bstep BA.out HB6.out⟩
        · have e0 : turnR M l fs x = (turnF (loopS l) fs x n, true) := by
            unfold turnR
            rw [hl, if_pos ⟨h12, h3, h4, h5⟩]
          rw [e0] at hR
          cases hR
          have H5 := hid h5
          have hlen : (turnF (loopS l) fs x n).length = n := by rw [turnF_len]; exact (goodFl_iff.1 h3).1
          rw [hlen]
          clear h1 h2 h12 h3 h4 h5 hl hN e0
          go_enter Try.func20, Try.ntmps20
          go_upto_region 1 with fail
          have BA := hid (by go_grown : Below w.heap.size w (w.alloc (.cells #[.int .i64 M, .slice a n c] 31)))
          have N0 := hid (cell_of_row _ _ 0 _ _ (0, 0) (heap_alloc_new w (.cells #[.int .i64 M, .slice a n c] 31)))
          have N1 := hid (cell_of_row _ _ 1 _ _ (0, 0) (heap_alloc_new w (.cells #[.int .i64 M, .slice a n c] 31)))
          have hzA : w.heap.size < (w.alloc (.cells #[.int .i64 M, .slice a n c] 31)).heap.size := by simp
          have n0 := N0.out
          have n1 := N1.out
          simp only [List.getElem?_toArray, List.getElem?_cons_zero, List.getElem?_cons_succ] at n0 n1
          generalize w.alloc (.cells #[.int .i64 M, .slice a n c] 31) = wA at *
          have KA := hid (show ∀ wx, Below wA.heap.size wA wx → (wx.cell? ⟨w.heap.size, 0, none⟩ = some (.int .i64 M) ∧ wx.cell? ⟨w.heap.size, 1, none⟩ = some (.slice a n c)) from fun wx hb => ⟨(hb.cell (p := ⟨w.heap.size, 0, none⟩) hzA).trans n0, (hb.cell (p := ⟨w.heap.size, 1, none⟩) hzA).trans n1⟩)
          go_wp2_with fail
          refine (i_hasRing M _ _ _ l _ (H.out.below BA.out) hn).mono ?_
          rintro e w1 ⟨rfl, hb1⟩
          rw [HF.out]
          have HB1 := hid hb1
          obtain ⟨n0', n1'⟩ := KA.out _ hb1
          have hz1 : w.heap.size < w1.heap.size := World.block_lt_of_cell? w1 _ n0'
          clear n0 n1 hb1
          go_wp2_with fail
          refine (i_areFlows _ _ _ n _ _ _ fs _ (H'.out.below (bstep BA.out HB1.out)) hm).mono ?_
          rintro e w3 ⟨rfl, hb3⟩
          rw [H3.out]
          have HB3 := hid (bstep HB1.out hb3)
          go_wp2_with fail
          refine (i_inside _ _ _ _).mono ?_
          rintro e _ ⟨rfl, rfl⟩
          rw [H4.out]
          obtain ⟨k0, k1⟩ := KA.out _ HB3.out
          clear hb3
          go_wp2_with fail
          refine (i_loopOf M _ _ _ l _ (H.out.below (bstep BA.out HB3.out)) HG.out HR.out).mono ?_
          rintro e w4 ⟨a4, c4, rfl, ho4, hb4⟩
          have HB4 := hid (bstep HB3.out hb4)
          have HO4 := hid ho4
          clear k0 k1 ho4 hb4
          go_wp2_with fail
          refine (i_turnFlows _ _ _ _ _ _ fs x _ HO4.out.at (H'.out.below (bstep BA.out HB4.out)) hn10 hn0 HSG.out HFL.out.2 hx).mono ?_
          rintro e w5 ⟨a5, c5, rfl, ho5, hb5⟩
          have HB5 := hid (bstep HB4.out hb5)
          have HO5 := hid ho5
          obtain ⟨k0, k1⟩ := KA.out _ HB5.out
          clear ho5 hb5
          go_wp2_with fail
          refine (i_areFlows _ _ _ n _ _ _ (turnF (loopS l) fs x n) _ HO5.out.at hm).mono ?_
          rintro e w6 ⟨rfl, hb6⟩
          rw [H5.out]
          have HB6 := hid (bstep HB5.out hb6)
          have HO6 := hid ((HO5.out.below hb6).mono (B' := w.heap.size) (Nat.le_trans BA.out.size HB4.out.size))
          go_wp2
          go_ret2
          exact ⟨_, _, rfl, HO6.out, bstep BA.out HB6.out⟩


end Go.Proofs.Ytikjighlnpdgiaa

/-
  Networks: the energy of flows.
-/
set_option linter.unusedVariables false
set_option linter.unusedSimpArgs false
namespace Go.Proofs.Ytikjighlnpdgiaa
open Go.RowKit

theorem enters_EnergyOf : enters 61 := by intro args w; kernel_rfl
theorem i_EnergyOf1 (x : Int) (w : World) (hx : -8000 ≤ x ∧ x ≤ 8000) : Calls Try.prog 61 #[.int .i64 x] w fun e w' => e = .returned (.bool (!inR x (-2000) 2000)) ∧ Below w.heap.size w w' := by
  go_enter Try.func61, Try.ntmps61
  go_wp2_with fail
  refine (i_absOf _ _ (by omega)).mono ?_
  rintro e w' ⟨rfl, rfl⟩
  go_wp2
  all_goals go_ret
  all_goals refine ⟨ret_bool ?_, by go_grown⟩
  all_goals (rw [Bool.eq_iff_iff]; simp [inR]; omega)

/-- What EnergyOf returns. -/
def slow (fs : List Int) : Bool := !fs.any (fun x => !inR x (-2000) 2000)
def energyR (N : Int) (l : List Pip) (fs : List Int) : Int × Bool := if goodNet N l = true ∧ goodFl l.length fs = true ∧ slow fs = true then (enrg l fs l.length, true) else (0, false)
theorem slow_iff {fs : List Int} : slow fs = true ↔ ∀ x ∈ fs, -2000 ≤ x ∧ x ≤ 2000 := by simp only [slow, Bool.not_eq_true', any_in]

theorem enrg_le {N : Int} {l : List Pip} {fs : List Int} (hg : goodNet N l = true) (hl : fs.length = l.length) (hs : slow fs = true) : ∀ k, k ≤ l.length → -(72000000000 * (k : Int)) ≤ enrg l fs k ∧ enrg l fs k ≤ 72000000000 * (k : Int)
  | 0, _ => by simp [enrg]
  | k + 1, hk => by
    have ih := enrg_le hg hl hs k (by omega)
    have hp := goodNet_pipe hg (k := k) (by omega)
    have hq := slow_iff.1 hs _ (getD_mem' (k := k) (by omega))
    have := (enrg_fit hp.2.2.2.2 hq).2.2
    rw [enrg_succ]
    push_cast
    omega

set_option maxRecDepth 100000 in
set_option maxHeartbeats 2000000 in
theorem i_energyOf (N : Int) (a b : Option Addr) (n c d : Nat) (l : List Pip) (fs : List Int) (w : World) (h : QAt w a n l) (h' : IntsAt w b n fs) (hg : goodNet N l = true) (hs : slow fs = true) :
    Calls Try.prog 51 #[.agg #[.int .i64 N, .slice a n c], .slice b n d] w fun e w' => e = .returned (.int .i64 (enrg l fs n)) ∧ Below w.heap.size w w' := by
  have H := hid h
  have H' := hid h'
  have HG := hid hg
  have HS := hid hs
  have HL := hid h.1
  have HL' := hid h'.1
  have hn : n ≤ 10 := by have := (goodNet_get hg).2.1; have := h.1; omega
  clear h h' hg hs
  go_enter Try.func51, Try.ntmps51
  go_wp2
  go_loopg [5, 11] n (fun g t i wr => ∃ k : Nat, k ≤ n ∧ g = n - k ∧ i = .int .i64 k ∧ t = .int .i64 (enrg l fs k) ∧ Hid (Below w.heap.size w wr))
  case atStart => exact ⟨0, Nat.zero_le _, rfl, rfl, by simp [enrg], hid (by go_grown)⟩
  case round =>
    obtain ⟨k, hk, rfl, rfl, rfl, hB⟩ := hrel
    by_cases hlt : k < n
    · obtain ⟨b0, off0, rfl, hbw, x0, x1, x2, x3⟩ := QAt.get (H.out.below hB.out) k hlt
      obtain ⟨b1, off1, rfl, hbw1, hcell⟩ := (H'.out.below hB.out).2 k hlt
      have hp := (goodNet_pipe HG.out (k := k) (by have := HL.out; omega)).2.2.2.2
      have hq := slow_iff.1 HS.out _ (getD_mem' (k := k) (by have := HL'.out; omega))
      obtain ⟨f1, f2, f3⟩ := enrg_fit hp hq
      have f4 := enrg_le HG.out (by have := HL.out; have := HL'.out; omega) HS.out k (by have := HL.out; omega)
      have hw1 := IntWalk.i64_in ((pp l k).2.2.2 * max (fs[k]?.getD 0) (-(fs[k]?.getD 0))) (by omega)
      have hw2 := IntWalk.i64_in ((pp l k).2.2.2 * max (fs[k]?.getD 0) (-(fs[k]?.getD 0)) * fs[k]?.getD 0) (by omega)
      have hw3 := IntWalk.i64_in ((pp l k).2.2.2 * max (fs[k]?.getD 0) (-(fs[k]?.getD 0)) * fs[k]?.getD 0 * fs[k]?.getD 0) (by omega)
      have hw4 := IntWalk.i64_in (enrg l fs k + (pp l k).2.2.2 * max (fs[k]?.getD 0) (-(fs[k]?.getD 0)) * fs[k]?.getD 0 * fs[k]?.getD 0) (by omega)
      go_upto_region 5 with fail
      obtain ⟨X0, -⟩ := bcell (Below.alloc (Below.refl wr.heap.size wr) (Nat.le_refl _) (.cells #[.int .i64 (pp l k).1, .int .i64 (pp l k).2.1, .int .i64 (pp l k).2.2.1, .int .i64 (pp l k).2.2.2] 71))
      have X := hid (show Below w.heap.size w (wr.alloc (.cells #[.int .i64 (pp l k).1, .int .i64 (pp l k).2.1, .int .i64 (pp l k).2.2.1, .int .i64 (pp l k).2.2.2] 71)).drew ∧ (wr.alloc (.cells #[.int .i64 (pp l k).1, .int .i64 (pp l k).2.1, .int .i64 (pp l k).2.2.1, .int .i64 (pp l k).2.2.2] 71)).drew.cell? ⟨wr.heap.size, 3, none⟩ = some (.int .i64 (pp l k).2.2.2) ∧ (wr.alloc (.cells #[.int .i64 (pp l k).1, .int .i64 (pp l k).2.1, .int .i64 (pp l k).2.2.1, .int .i64 (pp l k).2.2.2] 71)).drew.cell? ⟨b1, off1 + k, none⟩ = some (.int .i64 (fs[k]?.getD 0)) from ⟨(hB.out.alloc hB.out.size _).drew, cell_of_row _ _ 3 _ _ (0, 0) (heap_alloc_new _ _), (X0 _ _ (by omega)).trans hcell⟩)
      clear X0 x0 x1 x2 x3 hcell
      refine wp_region_calm (C := (fun w' => Below w.heap.size w w' ∧ w'.cell? ⟨wr.heap.size, 3, none⟩ = some (.int .i64 (pp l k).2.2.2) ∧ w'.cell? ⟨b1, off1 + k, none⟩ = some (.int .i64 (fs[k]?.getD 0)))) (by kernel_rfl) (by kernel_rfl) (X.out) ?_
      repeat
        first
          | go_big_quiet_skip
          | (go_big_quiet_want
             first
               | (unfold Oper.quiet
                  apply Exists.intro
                  refine ⟨fun wq hq => ?_, ?_⟩
                  · (try dsimp only at hq
                     simp [go_sem, Oper.quietAt, Oper.quietUpon, BigFrame.eval_const, BigFrame.eval_global, BigFrame.eval_func, ↓IntWalk.iteOmega, *]
                     first | done | rfl | (refine calm_same hq (i_absOf _ _ (by omega)) rfl))
                  simp only [Act.put, List.setIfInBounds_toArray, List.set_cons_succ, List.set_cons_zero]
                  go_big_quiet_on))
      refine wpQuiet_nil ?_
      intro wc hcalm
      try dsimp only at hcalm
      have HB := hid hcalm.1
      clear hcalm
      clear hw1 hw2 hw3 hw4 X
      go_wp2
      go_roundg (n - (k + 1))
      case rel => exact ⟨k + 1, by omega, rfl, by go_num, by rw [enrg_succ], HB⟩
      case measure => omega
    · obtain rfl : k = n := by omega
      go_wp2
      go_ret
      exact ⟨rfl, hB.out⟩

set_option maxRecDepth 100000 in
set_option maxHeartbeats 2000000 in
theorem s_l9Energy (N : Int) (a b : Option Addr) (n c d : Nat) (l : List Pip) (fs : List Int) (w : World) (h : QAt w a n l) (h' : IntsAt w b n fs) (hg : goodNet N l = true) (hs : slow fs = true) :
    Calls Try.prog 38 #[.agg #[.int .i64 N, .slice a n c], .slice b n d] w fun e w' => e = .returned (.int .i64 (enrg l fs n)) ∧ Below w.heap.size w w' := by
  have H := hid h
  have H' := hid h'
  have HG := hid hg
  have HS := hid hs
  have HL := hid h.1
  have HL' := hid h'.1
  have hn : n ≤ 10 := by have := (goodNet_get hg).2.1; have := h.1; omega
  clear h h' hg hs
  go_enter Try.func38, Try.ntmps38
  go_wp2
  go_loopg [5, 6] n (fun g t i wr => ∃ k : Nat, k ≤ n ∧ g = n - k ∧ i = .int .i64 k ∧ t = .int .i64 (enrg l fs k) ∧ Hid (Below w.heap.size w wr ∧ wr.cell? ⟨w.heap.size, 1, none⟩ = some (.slice a n c)))
  case atStart => exact ⟨0, Nat.zero_le _, rfl, rfl, by simp [enrg], hid ⟨by go_grown, cell_of_row _ _ 1 _ _ (0, 0) (heap_alloc_new _ _)⟩⟩
  case round =>
    obtain ⟨k, hk, rfl, rfl, rfl, hB⟩ := hrel
    by_cases hlt : k < n
    · obtain ⟨b0, off0, rfl, hbw, x0, x1, x2, x3⟩ := QAt.get (H.out.below hB.out.1) k hlt
      obtain ⟨b1, off1, rfl, hbw1, hcell⟩ := (H'.out.below hB.out.1).2 k hlt
      have hp := (goodNet_pipe HG.out (k := k) (by have := HL.out; omega)).2.2.2.2
      have hq := slow_iff.1 HS.out _ (getD_mem' (k := k) (by have := HL'.out; omega))
      obtain ⟨f1, f2, f3⟩ := enrg_fit hp hq
      have f4 := enrg_le HG.out (by have := HL.out; have := HL'.out; omega) HS.out k (by have := HL.out; omega)
      have hw1 := IntWalk.i64_in ((pp l k).2.2.2 * max (fs[k]?.getD 0) (-(fs[k]?.getD 0))) (by omega)
      have hw2 := IntWalk.i64_in ((pp l k).2.2.2 * max (fs[k]?.getD 0) (-(fs[k]?.getD 0)) * fs[k]?.getD 0) (by omega)
      have hw3 := IntWalk.i64_in ((pp l k).2.2.2 * max (fs[k]?.getD 0) (-(fs[k]?.getD 0)) * fs[k]?.getD 0 * fs[k]?.getD 0) (by omega)
      have hw4 := IntWalk.i64_in (enrg l fs k + (pp l k).2.2.2 * max (fs[k]?.getD 0) (-(fs[k]?.getD 0)) * fs[k]?.getD 0 * fs[k]?.getD 0) (by omega)
      go_upto_region 5 with fail
      have X := hid (show Below w.heap.size w wr.drew ∧ wr.drew.cell? ⟨b0, off0 + k * 4 + 3, none⟩ = some (.int .i64 (pp l k).2.2.2) ∧ wr.drew.cell? ⟨b1, off1 + k, none⟩ = some (.int .i64 (fs[k]?.getD 0)) ∧ wr.drew.cell? ⟨w.heap.size, 1, none⟩ = some (.slice (some ⟨b0, off0, none⟩) n c) from ⟨hB.out.1.drew, x3, hcell, hB.out.2⟩)
      clear x0 x1 x2 x3 hcell
      refine wp_region_calm (C := (fun w' => Below w.heap.size w w' ∧ w'.cell? ⟨b0, off0 + k * 4 + 3, none⟩ = some (.int .i64 (pp l k).2.2.2) ∧ w'.cell? ⟨b1, off1 + k, none⟩ = some (.int .i64 (fs[k]?.getD 0)) ∧ w'.cell? ⟨w.heap.size, 1, none⟩ = some (.slice (some ⟨b0, off0, none⟩) n c))) (by kernel_rfl) (by kernel_rfl) (X.out) ?_
      repeat
        first
          | go_big_quiet_skip
          | (go_big_quiet_want
             first
               | (unfold Oper.quiet
                  apply Exists.intro
                  refine ⟨fun wq hq => ?_, ?_⟩
                  · (try dsimp only at hq
                     simp [go_sem, Oper.quietAt, Oper.quietUpon, BigFrame.eval_const, BigFrame.eval_global, BigFrame.eval_func, ↓IntWalk.iteOmega, *]
                     first | done | rfl | (refine calm_same hq (s_l8Abs _ _ (by omega)) rfl))
                  simp only [Act.put, List.setIfInBounds_toArray, List.set_cons_succ, List.set_cons_zero]
                  go_big_quiet_on))
      refine wpQuiet_nil ?_
      intro wc hcalm
      try dsimp only at hcalm
      have HB := hid (show Below w.heap.size w wc ∧ wc.cell? ⟨w.heap.size, 1, none⟩ = some (.slice (some ⟨b0, off0, none⟩) n c) from ⟨hcalm.1, hcalm.2.2.2⟩)
      clear hcalm
      clear hw1 hw2 hw3 hw4 X
      go_wp2
      go_roundg (n - (k + 1))
      case rel => exact ⟨k + 1, by omega, rfl, by go_num, by rw [enrg_succ], HB⟩
      case measure => omega
    · obtain rfl : k = n := by omega
      have n1 := hB.out.2
      have hz0 : w.heap.size < wr.heap.size := World.block_lt_of_cell? wr _ n1
      go_wp2
      go_ret
      exact ⟨rfl, hB.out.1⟩

end Go.Proofs.Ytikjighlnpdgiaa

