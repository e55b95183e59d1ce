/-
  Texts of this claim, joined: LoopI.
-/
import Derived.Test.YtikjighlnpdgiaaRr6
import Derived.Test.YtikjighlnpdgiaaRr12
import Derived.Test.YtikjighlnpdgiaaRr13
/-
  The loop of a ring: the program's walk.
-/
set_option linter.unusedVariables false
set_option linter.unusedSimpArgs false
namespace Go.Proofs.Ytikjighlnpdgiaa
open Go.RowKit

set_option maxRecDepth 100000 in
set_option maxHeartbeats 4000000 in
theorem i_loopOf (M : Nat) (a : Option Addr) (n c : Nat) (l : List Pip) (w : World) (h : QAt w a n l) (hg : goodNet M l = true) (hr : ringB M l = true) :
    Calls Try.prog 44 #[.agg #[.int .i64 M, .slice a n c]] w fun e w' => ∃ a' c', e = .returned (.slice a' n c') ∧ OwnI w' w.heap.size (.slice a' n c') (loopS l) ∧ Below w.heap.size w w' := by
  obtain ⟨ii, hi, hz0, hz1', hz2⟩ := info_parts Try.infoInt
  have HI := hid hi
  have HZ := hid hz0
  have HZ1 := hid hz1'
  have HZ2 := hid hz2
  clear hi hz0 hz1' hz2
  have hM : M ≤ 8 := by have := (goodNet_get hg).1; omega
  have hM1 : 1 ≤ M := by have := (goodNet_get hg).1; omega
  obtain ⟨i0, d, v, q, hL, hon, hfi, hS, -, -⟩ := loop_data hg hr
  have hln := h.1
  have hnM : n = M := by have := ((ringB_iff hg).1 hr).1; omega
  have HLN := hid h.1
  have H := hid h
  have HG := hid hg
  have HR := hid hr
  have HL := hid hL
  have HON := hid hon
  have HFI := hid hfi
  have h0n : i0 < n := by have := hL.lt0; omega
  have HF1 := hid ((onsL_first hon hfi n).1 h0n)
  have hn : n ≤ 8 := by omega
  rw [hS]
  have HNM := hid hnM
  clear h hg hr hL hon hfi hS hln hnM
  have M0 : (0 : Int) ≤ (n : Int) := by omega
  have M8 : (n : Int) ≤ 8 := by omega
  go_enter Try.func44, Try.ntmps44
  go_upto_region 1 with fail
  have BA := hid (by go_grown : Below w.heap.size w (w.alloc (.cells #[.int .i64 M, .slice a n c] 31)))
  have N0 := hid (cell_of_row _ _ 0 _ _ (0, 0) (heap_alloc_new w (.cells #[.int .i64 M, .slice a n c] 31)))
  have N1 := hid (cell_of_row _ _ 1 _ _ (0, 0) (heap_alloc_new w (.cells #[.int .i64 M, .slice a n c] 31)))
  have hzA : w.heap.size < (w.alloc (.cells #[.int .i64 M, .slice a n c] 31)).heap.size := by simp
  have n0 := N0.out
  have n1 := N1.out
  simp only [List.getElem?_toArray, List.getElem?_cons_zero, List.getElem?_cons_succ] at n0 n1
  generalize w.alloc (.cells #[.int .i64 M, .slice a n c] 31) = wA at *
  have KA := hid (show ∀ wx, Below wA.heap.size wA wx → (wx.cell? ⟨w.heap.size, 0, none⟩ = some (.int .i64 M) ∧ wx.cell? ⟨w.heap.size, 1, none⟩ = some (.slice a n c)) from fun wx hb => ⟨(hb.cell (p := ⟨w.heap.size, 0, none⟩) hzA).trans n0, (hb.cell (p := ⟨w.heap.size, 1, none⟩) hzA).trans n1⟩)
  have hx0 : ∀ W : World, ∃ w', (Instr.makeSlice 25 (.int .i64 (n : Int)) (.int .i64 (n : Int))).run Try.prog W = .ok (.slice (some ⟨W.heap.size, 0, none⟩) n n) w' ∧ OwnI w' W.heap.size (.slice (some ⟨W.heap.size, 0, none⟩) n n) (List.replicate n 0) ∧ W.grownBy w' none := fun W => by
    obtain ⟨w', a1, b1, c1⟩ := run_make_full (P := Try.prog) W W.heap.size 25 3 ii (.int .i64 0) 1 Try.underlying25 HI.out HZ.out HZ1.out .i64 .i64 n (by rw [HZ2.out]; omega) (by unfold maxLen; omega) (Nat.le_refl _)
    rw [Nat.mul_one] at b1
    exact ⟨w', a1, OwnI.made b1, c1⟩
  obtain ⟨mk, hmk⟩ : ∃ mk : World → World, ∀ W, (Instr.makeSlice 25 (.int .i64 (n : Int)) (.int .i64 (n : Int))).run Try.prog W = .ok (.slice (some ⟨W.heap.size, 0, none⟩) n n) (mk W) ∧ OwnI (mk W) W.heap.size (.slice (some ⟨W.heap.size, 0, none⟩) n n) (List.replicate n 0) ∧ W.grownBy (mk W) none :=
    ⟨fun W => Classical.choose (hx0 W), fun W => Classical.choose_spec (hx0 W)⟩
  have RM := fun W => (hmk W).1
  have HMK := hid fun W => (hmk W).2
  have HBM := hid (show ∀ W, Below wA.heap.size wA W → Below wA.heap.size wA (mk W) from fun W hb => hb.grown (hmk W).2.2 hb.size (fun k hk => by simp at hk))
  have HBS := hid (show ∀ W, Below W.heap.size W (mk W) from fun W => below_of_grown (hmk W).2.2 (Nat.le_refl _) (fun k hk => by simp at hk))
  clear hx0 hmk
  go_cut [3, 4] (fun s3 s4 wx => ∃ g3 g4 : Nat, s3 = .slice (some ⟨g3, 0, none⟩) 0 0 ∧ s4 = .slice (some ⟨g4, 0, none⟩) n n ∧ Hid (OwnI wx wA.heap.size (.slice (some ⟨g3, 0, none⟩) 0 0) [] ∧ OwnI wx wA.heap.size (.slice (some ⟨g4, 0, none⟩) n n) (List.replicate n 0) ∧ Below wA.heap.size wA wx ∧ g3 ≠ g4))
  case first =>
    go_region_held3 (fun w' => (w'.cell? ⟨w.heap.size, 0, none⟩ = some (.int .i64 M) ∧ w'.cell? ⟨w.heap.size, 1, none⟩ = some (.slice a n c))) (first | go_keep | exact KA.out _ (by first | assumption | exact HBM.out _ (by first | assumption | go_grown) | go_grown))
      (first | fail)
    all_goals (go_wp2_with fail; go_meet)
    · have hs : (wA.alloc (.cells #[] 3)).drew.heap.size = wA.heap.size + 1 := by show (wA.alloc _).heap.size = _; simp
      have h9 := (HMK.out (wA.alloc (.cells #[] 3)).drew).1
      rw [hs] at h9
      refine ⟨_, _, rfl, rfl, hid ⟨(OwnI.lit0 wA).below (bstep ((Below.refl _ _).drew) (HBS.out _)), h9.mono (by omega), HBM.out _ ((by go_grown : Below wA.heap.size wA (wA.alloc (.cells #[] 3))).drew), by omega⟩⟩
    · have hs : wA.drew.heap.size < (mk wA.drew).heap.size := ((HMK.out wA.drew).1.lt _ rfl).2
      refine ⟨_, _, rfl, rfl, hid ⟨(OwnI.lit0 _).mono (by have : wA.drew.heap.size = wA.heap.size := rfl; omega), (HMK.out wA.drew).1.alloc _, bstep (HBM.out wA.drew ((Below.refl _ _).drew)) (by go_grown), ?_⟩⟩
      have : wA.drew.heap.size = wA.heap.size := rfl
      omega
  case rest =>
    obtain ⟨g3, g4, rfl, rfl, hx⟩ := hcut
    obtain ⟨n0', n1'⟩ := KA.out _ hx.out.2.2.1
    have hzc : w.heap.size < wc.heap.size := World.block_lt_of_cell? wc _ n0'
    clear n0 n1 RM HMK HBM HBS
    go_wp2
    go_loopg [3, 19] n (fun g o i wr => ∃ (k : Nat) (a' : Option Addr) (c' : Nat), k ≤ n ∧ g = n - k ∧ i = .int .i64 k ∧ o = .slice a' (onsL l k).length c' ∧ Hid (OwnI wr wA.heap.size (.slice a' (onsL l k).length c') (onsL l k) ∧ OwnI wr wA.heap.size (.slice (some ⟨g4, 0, none⟩) n n) (List.replicate n 0) ∧ Below wA.heap.size wA wr ∧ Value.ownBlock (.slice a' (onsL l k).length c') ≠ some g4))
    case atStart => exact ⟨0, _, 0, Nat.zero_le _, rfl, rfl, rfl, hid ⟨hx.out.1, hx.out.2.1, hx.out.2.2.1, by simpa [Value.ownBlock] using hx.out.2.2.2⟩⟩
    case round =>
      obtain ⟨k, a', c', hk, rfl, rfl, rfl, hh⟩ := hrel
      clear n0' n1'
      have hlen := onsL_len l k
      obtain ⟨n0, n1⟩ := KA.out _ hh.out.2.2.1
      have hz0 : w.heap.size < wr.heap.size := World.block_lt_of_cell? wr _ n0
      by_cases hlt : k < n
      · obtain ⟨b0, off0, rfl, hbw, x0, x1, x2, x3⟩ := QAt.get (H.out.below (bstep BA.out hh.out.2.2.1)) k hlt
        have hkl : k < l.length := by have := HLN.out; omega
        have HP := hid (goodNet_pipe HG.out hkl)
        have HPP := hid (show pp l k = ((pp l k).1, (pp l k).2.1, (pp l k).2.2.1, (pp l k).2.2.2) from rfl)
        obtain ⟨T, hT⟩ : ∃ T : Nat, (pp l k).2.2.1 = T := ⟨(pp l k).2.2.1.toNat, by have := HP.out.2.2.1; omega⟩
        have hT1 : 1 ≤ T ∧ T ≤ M := by have := HP.out.2.2.1; omega
        have t0 : (0 : Int) ≤ (T : Int) := by omega
        have t1 : (T : Int) < ((M + 1 : Nat) : Int) := by omega
        have t2 : T < M + 1 := by omega
        have t3 : (T : Int) < (M : Int) + 1 := by omega
        obtain ⟨fd, hfd⟩ : ∃ fd, far l (pp l k).1 (pp l k).2.1 (pp l k).2.2.1 = fd := ⟨_, rfl⟩
        have HD := hid (show (distL M l (pp l k).1 (pp l k).2.1)[T]?.getD 0 = fd from by
          rw [distL_at (by omega) (by omega), ← hT]; exact hfd)
        rw [hT] at x2
        have HON1 := hid (show onL l k = decide (0 ≤ fd) from by unfold onL; rw [hfd])
        clear hT hkl hfd
        obtain ⟨P, hP⟩ : ∃ P, pp l k = P := ⟨_, rfl⟩
        rw [hP] at x0 x1 x3 HP HD
        clear hP HPP
        go_upto_region 5 with fail
        have BP := hid (bstep hh.out.2.2.1 (by go_grown) : Below wA.heap.size wA (wr.alloc (.cells #[.int .i64 P.1, .int .i64 P.2.1, .int .i64 T, .int .i64 P.2.2.2] 71)))
        have HW := hid (show OwnI (wr.alloc (.cells #[.int .i64 P.1, .int .i64 P.2.1, .int .i64 T, .int .i64 P.2.2.2] 71)) wA.heap.size (.slice a' (onsL l k).length c') (onsL l k) ∧ OwnI (wr.alloc (.cells #[.int .i64 P.1, .int .i64 P.2.1, .int .i64 T, .int .i64 P.2.2.2] 71)) wA.heap.size (.slice (some ⟨g4, 0, none⟩) n n) (List.replicate n 0) from ⟨hh.out.1.alloc _, hh.out.2.1.alloc _⟩)
        have HNE := hid hh.out.2.2.2
        have PB := hid (last_new wr (.cells #[.int .i64 P.1, .int .i64 P.2.1, .int .i64 T, .int .i64 P.2.2.2] 71) _ rfl)
        have hzp : wr.heap.size < (wr.alloc (.cells #[.int .i64 P.1, .int .i64 P.2.1, .int .i64 T, .int .i64 P.2.2.2] 71)).heap.size := by simp
        generalize wr.alloc (.cells #[.int .i64 P.1, .int .i64 P.2.1, .int .i64 T, .int .i64 P.2.2.2] 71) = wp at *
        clear x0 x1 x2 x3 hbw hh hz0 n0 n1
        have p0 : wp.cell? ⟨wr.heap.size, 0, none⟩ = some (.int .i64 P.1) := by rw [cell_of_row wp _ _ _ _ (0, 0) PB.out]; rfl
        have p1 : wp.cell? ⟨wr.heap.size, 1, none⟩ = some (.int .i64 P.2.1) := by rw [cell_of_row wp _ _ _ _ (0, 0) PB.out]; rfl
        have p2 : wp.cell? ⟨wr.heap.size, 2, none⟩ = some (.int .i64 T) := by rw [cell_of_row wp _ _ _ _ (0, 0) PB.out]; rfl
        obtain ⟨n0, n1⟩ := KA.out _ BP.out
        have hz0 : w.heap.size < wp.heap.size := World.block_lt_of_cell? wp _ n0
        have KP := hid (show ∀ wx, Below wp.heap.size wp wx → (wx.cell? ⟨w.heap.size, 0, none⟩ = some (.int .i64 M) ∧ wx.cell? ⟨w.heap.size, 1, none⟩ = some (.slice (some ⟨b0, off0, none⟩) n c) ∧ wx.cell? ⟨wr.heap.size, 0, none⟩ = some (.int .i64 P.1) ∧ wx.cell? ⟨wr.heap.size, 1, none⟩ = some (.int .i64 P.2.1) ∧ wx.cell? ⟨wr.heap.size, 2, none⟩ = some (.int .i64 T)) from fun wx hb => ⟨(hb.cell (p := ⟨w.heap.size, 0, none⟩) hz0).trans n0, (hb.cell (p := ⟨w.heap.size, 1, none⟩) hz0).trans n1, (hb.cell (p := ⟨wr.heap.size, 0, none⟩) hzp).trans p0, (hb.cell (p := ⟨wr.heap.size, 1, none⟩) hzp).trans p1, (hb.cell (p := ⟨wr.heap.size, 2, none⟩) hzp).trans p2⟩)
        by_cases hp : 0 ≤ fd
        · have E := hid (onsL_yes (l := l) (k := k) (by rw [HON1.out]; simpa using hp))
          go_cut [34] (fun s wx => s = .bool true ∧ Hid (Below wp.heap.size wp wx))
          case first =>
            refine wp_region_noPanic ?_
            refine wp_region_held_drew (S := fun w' => (w'.cell? ⟨w.heap.size, 0, none⟩ = some (.int .i64 M) ∧ w'.cell? ⟨w.heap.size, 1, none⟩ = some (.slice (some ⟨b0, off0, none⟩) n c) ∧ w'.cell? ⟨wr.heap.size, 0, none⟩ = some (.int .i64 P.1) ∧ w'.cell? ⟨wr.heap.size, 1, none⟩ = some (.int .i64 P.2.1) ∧ w'.cell? ⟨wr.heap.size, 2, none⟩ = some (.int .i64 T))) (by kernel_rfl) (by exact ⟨n0, n1, p0, p1, p2⟩) (fun hHeld => ?_)
            refine wpAnyH_take' (i := 0) (v := ?_) rfl (by kernel_rfl) (by kernel_rfl) (by kernel_rfl) (fun _ _ _ h => h) (Or.inl ⟨by rfl, ?_⟩) (by assumption) ?_
            rotate_left
            · (intro w' hSw; (try dsimp only at hSw); go_simp; all_goals with_reducible rfl)
            try simp only [Act.put, List.setIfInBounds_toArray, List.set_cons_zero, List.set_cons_succ]
            refine wpAnyH_take' (i := 1) (v := ?_) rfl (by kernel_rfl) (by kernel_rfl) (by kernel_rfl) (fun _ _ _ h => h) (Or.inl ⟨by rfl, ?_⟩) (by assumption) ?_
            rotate_left
            · (intro w' hSw; (try dsimp only at hSw); go_simp; all_goals with_reducible rfl)
            try simp only [Act.put, List.setIfInBounds_toArray, List.set_cons_zero, List.set_cons_succ]
            refine wpAnyH_take' (i := 2) (v := ?_) rfl (by kernel_rfl) (by kernel_rfl) (by kernel_rfl) (fun _ _ _ h => h) (Or.inl ⟨by rfl, ?_⟩) (by assumption) ?_
            rotate_left
            · (intro w' hSw; (try dsimp only at hSw); go_simp; all_goals with_reducible rfl)
            try simp only [Act.put, List.setIfInBounds_toArray, List.set_cons_zero, List.set_cons_succ]
            refine wpAnyH_take' (i := 3) (v := ?_) rfl (by kernel_rfl) (by kernel_rfl) (by kernel_rfl) (fun _ _ _ h => h) (Or.inl ⟨by rfl, ?_⟩) (by assumption) ?_
            rotate_left
            · (intro w' hSw; (try dsimp only at hSw); go_simp; all_goals with_reducible rfl)
            try simp only [Act.put, List.setIfInBounds_toArray, List.set_cons_zero, List.set_cons_succ]
            refine wpAnyH_take' (i := 4) (v := ?_) rfl (by kernel_rfl) (by kernel_rfl) (by kernel_rfl) (fun _ _ _ h => h) (Or.inl ⟨by rfl, ?_⟩) (by assumption) ?_
            rotate_left
            · (intro w' hSw; (try dsimp only at hSw); go_simp; all_goals with_reducible rfl)
            try simp only [Act.put, List.setIfInBounds_toArray, List.set_cons_zero, List.set_cons_succ]
            refine wpAnyH_take' (i := 6) (v := ?_) rfl (by kernel_rfl) (by kernel_rfl) (by kernel_rfl) (fun _ _ _ h => h) (Or.inl ⟨by rfl, ?_⟩) (by assumption) ?_
            rotate_left
            · (intro w' hSw; (try dsimp only at hSw); go_simp; all_goals with_reducible rfl)
            try simp only [Act.put, List.setIfInBounds_toArray, List.set_cons_zero, List.set_cons_succ]
            refine wpAnyH_take' (i := 7) (v := ?_) rfl (by kernel_rfl) (by kernel_rfl) (by kernel_rfl) (fun _ _ _ h => h) (Or.inl ⟨by rfl, ?_⟩) (by assumption) ?_
            rotate_left
            · (intro w' hSw; (try dsimp only at hSw); go_simp; all_goals with_reducible rfl)
            try simp only [Act.put, List.setIfInBounds_toArray, List.set_cons_zero, List.set_cons_succ]
            refine wpAnyH_ready (rs := [5]) (by kernel_rfl) (by simp) ?_
            refine allReadyH_cons' rfl (fun K hK => ?_) AllReadyH.nil
            go_simp
            go_at_call 68
            refine (i_distances M P.2.1 P.1 _ _ _ l _ (H.out.below (bstep BA.out (bstep BP.out (by go_grown)))) HG.out HP.out.2.1).mono ?_
            rintro e w5 ⟨a5, c5, rfl, ho5, hb5⟩
            obtain ⟨g5, rfl, -, -⟩ := own_some ho5 (by omega)
            have d5 := ho5.cell (k := T) t2
            rw [HD.out] at d5
            have hbA : Below wp.heap.size wp w5 := bstep ((Below.refl _ _).drew : Below wp.heap.size wp wp.drew) hb5
            refine hK.out _ _ (KP.out _ hbA) (fun hHeld5 => ?_)
            clear hK K
            try simp only [Act.put, List.setIfInBounds_toArray, List.set_cons_zero, List.set_cons_succ]
            refine wpAnyH_take' (i := 8) (v := ?_) rfl (by kernel_rfl) (by kernel_rfl) (by kernel_rfl) (fun _ _ _ h => h) (Or.inl ⟨by rfl, ?_⟩) (by assumption) ?_
            rotate_left
            · (intro w' hSw; (try dsimp only at hSw); go_simp; all_goals with_reducible rfl)
            try simp only [Act.put, List.setIfInBounds_toArray, List.set_cons_zero, List.set_cons_succ]
            refine wpAnyH_ready (rs := [9]) (by kernel_rfl) (by simp) ?_
            refine allReadyH_cons' rfl (fun K hK => ?_) AllReadyH.nil
            go_simp
            refine hK.out _ _ (KP.out _ hbA) (fun hHeld6 => ?_)
            clear hK K
            try simp only [Act.put, List.setIfInBounds_toArray, List.set_cons_zero, List.set_cons_succ]
            refine wpAnyH_take' (i := 10) (v := ?_) rfl (by kernel_rfl) (by kernel_rfl) (by kernel_rfl) (fun _ _ _ h => h) (Or.inl ⟨by rfl, ?_⟩) (by assumption) ?_
            rotate_left
            · (intro w' hSw; (try dsimp only at hSw); go_simp; all_goals with_reducible rfl)
            try simp only [Act.put, List.setIfInBounds_toArray, List.set_cons_zero, List.set_cons_succ]
            refine wpAnyH_done (by kernel_rfl) ?_ _
            refine NoPanic.normal ?_
            go_wp2_with fail
            go_meet
            exact ⟨by simp [*], hid hbA⟩
          case rest =>
            obtain ⟨rfl, hx⟩ := hcut
            have ho2 := HW.out.1.below hx.out
            have hb2 := bstep BP.out hx.out
            have hl1 := onsL_len l k
            clear n0 n1 p0 p1 p2 hz0
            go_wp2_with (at_builtin; refine wp_append_ints _ rfl _ _ rfl wA.heap.size _ (onsL l k) rfl (ho2.alloc _) _ 1 1 [(k : Int)] rfl (IntsAt.single _ _) ((onsL l k).length + 1) (by simp) (by omega) (by have := hb2.size; simp; omega) ?_)
            intro a2 c2 w5 hown hgrow hblk
            have hl2 : (onsL l k).length + 1 = (onsL l (k + 1)).length := by rw [E.out]; simp
            rw [hl2] at hown hblk ⊢
            have S2 := hid (show OwnI w5 wA.heap.size (.slice a2 (onsL l (k + 1)).length c2) (onsL l (k + 1)) ∧ OwnI w5 wA.heap.size (.slice (some ⟨g4, 0, none⟩) n n) (List.replicate n 0) ∧ Below wA.heap.size wA w5 ∧ Value.ownBlock (.slice a2 (onsL l (k + 1)).length c2) ≠ some g4 from by
              refine ⟨by rw [E.out] at hown ⊢; exact hown, ((HW.out.2.below hx.out).alloc _).kept hgrow (.inr (fun e => HNE.out (by rw [← e]; rfl))), (bstep hb2 (by go_grown)).grown hgrow (by have := hb2.size; simp; omega) (fun q hq => (ho2.lt q hq).1), ?_⟩
              rcases hblk with e | e
              · rw [e]; exact HNE.out
              · rw [e]
                have := (HW.out.2.lt g4 rfl).2
                have := hx.out.size
                simp
                omega)
            clear hown hgrow hblk hl2 ho2 hb2 hl1
            go_wp2
            go_roundg (n - (k + 1))
            case rel => exact ⟨k + 1, _, _, by omega, rfl, by go_num, rfl, S2⟩
            case measure => omega
        · have E := hid (onsL_no (l := l) (k := k) (by rw [HON1.out]; simpa using hp))
          go_cut [34] (fun s wx => s = .bool false ∧ Hid (Below wp.heap.size wp wx))
          case first =>
            refine wp_region_noPanic ?_
            refine wp_region_held_drew (S := fun w' => (w'.cell? ⟨w.heap.size, 0, none⟩ = some (.int .i64 M) ∧ w'.cell? ⟨w.heap.size, 1, none⟩ = some (.slice (some ⟨b0, off0, none⟩) n c) ∧ w'.cell? ⟨wr.heap.size, 0, none⟩ = some (.int .i64 P.1) ∧ w'.cell? ⟨wr.heap.size, 1, none⟩ = some (.int .i64 P.2.1) ∧ w'.cell? ⟨wr.heap.size, 2, none⟩ = some (.int .i64 T))) (by kernel_rfl) (by exact ⟨n0, n1, p0, p1, p2⟩) (fun hHeld => ?_)
            refine wpAnyH_take' (i := 0) (v := ?_) rfl (by kernel_rfl) (by kernel_rfl) (by kernel_rfl) (fun _ _ _ h => h) (Or.inl ⟨by rfl, ?_⟩) (by assumption) ?_
            rotate_left
            · (intro w' hSw; (try dsimp only at hSw); go_simp; all_goals with_reducible rfl)
            try simp only [Act.put, List.setIfInBounds_toArray, List.set_cons_zero, List.set_cons_succ]
            refine wpAnyH_take' (i := 1) (v := ?_) rfl (by kernel_rfl) (by kernel_rfl) (by kernel_rfl) (fun _ _ _ h => h) (Or.inl ⟨by rfl, ?_⟩) (by assumption) ?_
            rotate_left
            · (intro w' hSw; (try dsimp only at hSw); go_simp; all_goals with_reducible rfl)
            try simp only [Act.put, List.setIfInBounds_toArray, List.set_cons_zero, List.set_cons_succ]
            refine wpAnyH_take' (i := 2) (v := ?_) rfl (by kernel_rfl) (by kernel_rfl) (by kernel_rfl) (fun _ _ _ h => h) (Or.inl ⟨by rfl, ?_⟩) (by assumption) ?_
            rotate_left
            · (intro w' hSw; (try dsimp only at hSw); go_simp; all_goals with_reducible rfl)
            try simp only [Act.put, List.setIfInBounds_toArray, List.set_cons_zero, List.set_cons_succ]
            refine wpAnyH_take' (i := 3) (v := ?_) rfl (by kernel_rfl) (by kernel_rfl) (by kernel_rfl) (fun _ _ _ h => h) (Or.inl ⟨by rfl, ?_⟩) (by assumption) ?_
            rotate_left
            · (intro w' hSw; (try dsimp only at hSw); go_simp; all_goals with_reducible rfl)
            try simp only [Act.put, List.setIfInBounds_toArray, List.set_cons_zero, List.set_cons_succ]
            refine wpAnyH_take' (i := 4) (v := ?_) rfl (by kernel_rfl) (by kernel_rfl) (by kernel_rfl) (fun _ _ _ h => h) (Or.inl ⟨by rfl, ?_⟩) (by assumption) ?_
            rotate_left
            · (intro w' hSw; (try dsimp only at hSw); go_simp; all_goals with_reducible rfl)
            try simp only [Act.put, List.setIfInBounds_toArray, List.set_cons_zero, List.set_cons_succ]
            refine wpAnyH_take' (i := 6) (v := ?_) rfl (by kernel_rfl) (by kernel_rfl) (by kernel_rfl) (fun _ _ _ h => h) (Or.inl ⟨by rfl, ?_⟩) (by assumption) ?_
            rotate_left
            · (intro w' hSw; (try dsimp only at hSw); go_simp; all_goals with_reducible rfl)
            try simp only [Act.put, List.setIfInBounds_toArray, List.set_cons_zero, List.set_cons_succ]
            refine wpAnyH_take' (i := 7) (v := ?_) rfl (by kernel_rfl) (by kernel_rfl) (by kernel_rfl) (fun _ _ _ h => h) (Or.inl ⟨by rfl, ?_⟩) (by assumption) ?_
            rotate_left
            · (intro w' hSw; (try dsimp only at hSw); go_simp; all_goals with_reducible rfl)
            try simp only [Act.put, List.setIfInBounds_toArray, List.set_cons_zero, List.set_cons_succ]
            refine wpAnyH_ready (rs := [5]) (by kernel_rfl) (by simp) ?_
            refine allReadyH_cons' rfl (fun K hK => ?_) AllReadyH.nil
            go_simp
            go_at_call 68
            refine (i_distances M P.2.1 P.1 _ _ _ l _ (H.out.below (bstep BA.out (bstep BP.out (by go_grown)))) HG.out HP.out.2.1).mono ?_
            rintro e w5 ⟨a5, c5, rfl, ho5, hb5⟩
            obtain ⟨g5, rfl, -, -⟩ := own_some ho5 (by omega)
            have d5 := ho5.cell (k := T) t2
            rw [HD.out] at d5
            have hbA : Below wp.heap.size wp w5 := bstep ((Below.refl _ _).drew : Below wp.heap.size wp wp.drew) hb5
            refine hK.out _ _ (KP.out _ hbA) (fun hHeld5 => ?_)
            clear hK K
            try simp only [Act.put, List.setIfInBounds_toArray, List.set_cons_zero, List.set_cons_succ]
            refine wpAnyH_take' (i := 8) (v := ?_) rfl (by kernel_rfl) (by kernel_rfl) (by kernel_rfl) (fun _ _ _ h => h) (Or.inl ⟨by rfl, ?_⟩) (by assumption) ?_
            rotate_left
            · (intro w' hSw; (try dsimp only at hSw); go_simp; all_goals with_reducible rfl)
            try simp only [Act.put, List.setIfInBounds_toArray, List.set_cons_zero, List.set_cons_succ]
            refine wpAnyH_ready (rs := [9]) (by kernel_rfl) (by simp) ?_
            refine allReadyH_cons' rfl (fun K hK => ?_) AllReadyH.nil
            go_simp
            refine hK.out _ _ (KP.out _ hbA) (fun hHeld6 => ?_)
            clear hK K
            try simp only [Act.put, List.setIfInBounds_toArray, List.set_cons_zero, List.set_cons_succ]
            refine wpAnyH_take' (i := 10) (v := ?_) rfl (by kernel_rfl) (by kernel_rfl) (by kernel_rfl) (fun _ _ _ h => h) (Or.inl ⟨by rfl, ?_⟩) (by assumption) ?_
            rotate_left
            · (intro w' hSw; (try dsimp only at hSw); go_simp; all_goals with_reducible rfl)
            try simp only [Act.put, List.setIfInBounds_toArray, List.set_cons_zero, List.set_cons_succ]
            refine wpAnyH_done (by kernel_rfl) ?_ _
            refine NoPanic.normal ?_
            go_wp2_with fail
            go_meet
            exact ⟨by simp [*], hid hbA⟩
          case rest =>
            obtain ⟨rfl, hx⟩ := hcut
            have S2 := hid (show OwnI wc wA.heap.size (.slice a' (onsL l k).length c') (onsL l k) ∧ OwnI wc wA.heap.size (.slice (some ⟨g4, 0, none⟩) n n) (List.replicate n 0) ∧ Below wA.heap.size wA wc ∧ Value.ownBlock (.slice a' (onsL l k).length c') ≠ some g4 from ⟨HW.out.1.below hx.out, HW.out.2.below hx.out, bstep BP.out hx.out, HNE.out⟩)
            clear n0 n1 p0 p1 p2 hz0
            go_wp2
            go_roundg (n - (k + 1))
            case rel => exact ⟨k + 1, a', c', by omega, rfl, by go_num, by rw [E.out], hid (by rw [E.out]; exact S2.out)⟩
            case measure => omega
      · obtain rfl : n = k := by omega
        obtain ⟨OL, hOL⟩ : ∃ OL, onsL l n = OL := ⟨_, rfl⟩
        have HOL := hid hOL
        obtain ⟨hm0, hc0⟩ := HF1.out
        rw [hOL] at hh hm0 hc0 ⊢
        obtain ⟨gl, rfl, hgl1, hgl2⟩ := own_some hh.out.1 hm0
        have hgne : ¬ gl = g4 := fun e => hh.out.2.2.2 (by simp [Value.ownBlock, e])
        have hgne2 : ¬ g4 = gl := fun e => hgne e.symm
        obtain ⟨m, hm⟩ : ∃ m, OL.length = m := ⟨_, rfl⟩
        rw [hm] at hh hm0 ⊢
        have HM := hid hm
        have hm8 : m ≤ 8 := by have := onsL_len l n; rw [hOL, hm] at this; omega
        have c0 := hh.out.1.cell (k := 0) hm0
        rw [hc0] at c0
        have HC0 := hid hc0
        have hfr := hh.out.2.1.frozen (k := i0)
        have hc4 := hh.out.2.1.cell (k := i0) h0n
        have hg4 := (hh.out.2.1.lt g4 rfl)
        have j0 : (0 : Int) ≤ (i0 : Int) := by omega
        have j1 : (i0 : Int) < (n : Int) := by omega
        have j2 : (0 : Int) < (m : Int) := by omega
        have SS := hid (hh.out.2.1.set (k := i0) 1)
        clear hOL hm hc0 hlt hlen n0 n1
        go_upto_region 9 with fail
        have S9 : sigs l i0 v q 0 = (List.replicate n 0).set i0 1 := by unfold sigs; rw [HLN.out]
        have W9 := hid (show OwnI (wr.setCell ⟨g4, i0, none⟩ (.int .i64 1)) wA.heap.size (.slice (some ⟨gl, 0, none⟩) m c') OL ∧ OwnI (wr.setCell ⟨g4, i0, none⟩ (.int .i64 1)) wA.heap.size (.slice (some ⟨g4, 0, none⟩) n n) (sigs l i0 v q 0) ∧ Below wA.heap.size wA (wr.setCell ⟨g4, i0, none⟩ (.int .i64 1)) from ⟨hh.out.1.kept SS.out.2 (.inr (by simp [Value.ownBlock, hgne])), by rw [S9]; exact SS.out.1, hh.out.2.2.1.grown SS.out.2 hh.out.2.2.1.size (fun k hk => by simp at hk; omega)⟩)
        generalize wr.setCell ⟨g4, i0, none⟩ (.int .i64 1) = w9 at *
        clear c0 hfr hc4 SS hh S9 hz0
        obtain ⟨n0, n1⟩ := KA.out _ W9.out.2.2
        have c0 := W9.out.1.cell (k := 0) hm0
        rw [HC0.out] at c0
        obtain ⟨b0, off0, rfl, hbw, x0, x1, x2, x3⟩ := QAt.get H.out i0 h0n
        have HP0 := hid (goodNet_pipe HG.out HL.out.lt0)
        obtain ⟨F, hF⟩ : ∃ F : Nat, (pp l i0).2.1 = F := ⟨(pp l i0).2.1.toNat, by have := HP0.out.2.1; omega⟩
        obtain ⟨T, hT⟩ : ∃ T : Nat, (pp l i0).2.2.1 = T := ⟨(pp l i0).2.2.1.toNat, by have := HP0.out.2.2.1; omega⟩
        have HFF := hid hF
        have HTT := hid hT
        rw [hF] at x1
        rw [hT] at x2
        have KX := hid (show ∀ W, Below wA.heap.size wA W → (W.cell? ⟨b0, off0 + i0 * 4 + 1, none⟩ = some (.int .i64 F) ∧ W.cell? ⟨b0, off0 + i0 * 4 + 2, none⟩ = some (.int .i64 T)) from fun W hb => ⟨((bstep BA.out hb).cell (p := ⟨b0, off0 + i0 * 4 + 1, none⟩) hbw).trans x1, ((bstep BA.out hb).cell (p := ⟨b0, off0 + i0 * 4 + 2, none⟩) hbw).trans x2⟩)
        have hbA : b0 < wA.heap.size := by omega
        have hbg : ¬ b0 = g4 := by omega
        have hbg2 : ¬ g4 = b0 := by omega
        have hwg : ¬ w.heap.size = g4 := by omega
        have hwg2 : ¬ g4 = w.heap.size := by omega
        clear x0 x1 x2 x3 hF hT hbw
        obtain ⟨x1, x2⟩ := KX.out _ W9.out.2.2
        have hb9 : b0 < w9.heap.size := by have := W9.out.2.2.size; omega
        go_quiet (fail)
        have WQ := hid (show OwnI (w9.drewN nq) wA.heap.size (.slice (some ⟨gl, 0, none⟩) m c') OL ∧ OwnI (w9.drewN nq) wA.heap.size (.slice (some ⟨g4, 0, none⟩) n n) (sigs l i0 v q 0) ∧ Below wA.heap.size wA (w9.drewN nq) from ⟨W9.out.1.below (bdraws _), W9.out.2.1.below (bdraws _), bstep W9.out.2.2 (bdraws _)⟩)
        generalize w9.drewN nq = wq at *
        clear n0 n1 c0 x1 x2 hb9 W9 nq
        go_wp2
        go_loopg [7] d (fun g fr wr => ∃ j V : Nat, j ≤ d ∧ g = d - j ∧ fr = .int .i64 V ∧ Hid (v j = V) ∧ Hid (OwnI wr wA.heap.size (.slice (some ⟨g4, 0, none⟩) n n) (sigs l i0 v q j) ∧ wq.grownBy wr (some g4)))
        case atStart => exact ⟨0, T, Nat.zero_le _, rfl, rfl, hid (HL.out.v0.trans HTT.out), hid ⟨WQ.out.2.1, grown_of_below (Below.refl _ _) _⟩⟩
        case round =>
          obtain ⟨j, V, hj, rfl, rfl, hV, hh⟩ := hrel
          obtain ⟨W1, hW1⟩ : ∃ W, W = wr := ⟨_, rfl⟩
          subst hW1
          have HB1 := hid (show Below wA.heap.size wA W1 from WQ.out.2.2.grown hh.out.2 WQ.out.2.2.size (fun k hk => by simp at hk; omega))
          have HO1 := hid (WQ.out.1.kept hh.out.2 (.inr (by simp [Value.ownBlock, hgne])))
          obtain ⟨n0, n1⟩ := KA.out _ HB1.out
          have hz1 : w.heap.size < W1.heap.size := World.block_lt_of_cell? W1 _ n0
          have c0 := HO1.out.cell (k := 0) hm0
          rw [HC0.out] at c0
          obtain ⟨x1, x2⟩ := KX.out _ HB1.out
          have hvd := hid (HL.out.vd.trans HFF.out)
          by_cases hlt : j < d
          · have hne : ¬ V = F := fun e => by
              have := HL.out.vinj j d (by omega) (Nat.le_refl _) (by rw [hV.out, hvd.out, e])
              omega
            have hne2 : ((V : Int) != (F : Int)) = true := by simp; omega
            go_upto_region 10 with fail
            go_quiet (fail)
            have HB2 := hid (bdraws nq : Below W1.heap.size W1 (W1.drewN nq))
            generalize W1.drewN nq = W2 at *
            clear n0 n1 c0 x1 x2 nq hz1
            go_wp2
            go_loopg [7, 65] m (fun gm fr i wr => ∃ x : Nat, x ≤ m ∧ gm = m - x ∧ i = .int .i64 x ∧ fr = .int .i64 V ∧ Hid (∀ y, y < x → ∀ i : Nat, OL[y]?.getD 0 = i → i ≠ q j) ∧ Hid (Below W1.heap.size W1 wr))
            case atStart => exact ⟨0, Nat.zero_le _, rfl, rfl, rfl, hid (fun y hy => absurd hy (by omega)), HB2⟩
            case round =>
              obtain ⟨x, hx, rfl, rfl, rfl, hmm, hb⟩ := hrel
              have HBW := hid (bstep HB1.out hb.out)
              obtain ⟨n0, n1⟩ := KA.out _ HBW.out
              have hz0 : w.heap.size < wr.heap.size := World.block_lt_of_cell? wr _ n0
              by_cases hlt2 : x < m
              · obtain ⟨i, hin, hOi, hoi⟩ := mem_onsL.1 (show OL[x]?.getD 0 ∈ onsL l n from by rw [HOL.out]; exact getD_mem OL x (by rw [HM.out]; exact hlt2))
                have cl := (HO1.out.below hb.out).cell (k := x) hlt2
                rw [hOi] at cl
                have HOI := hid hOi
                have HON2 := hid hoi
                have hglw : gl < wr.heap.size := ((HO1.out.below hb.out).lt gl rfl).2
                obtain ⟨b1, off1, e1, hbw, x0, x1, x2, x3⟩ := QAt.get (H.out.below (bstep BA.out HBW.out)) i hin
                simp only [Option.some.injEq, Addr.mk.injEq] at e1
                obtain ⟨rfl, rfl, -⟩ := e1
                have hkl : i < l.length := by have := HLN.out; omega
                have HP := hid (goodNet_pipe HG.out hkl)
                obtain ⟨T2, hT2⟩ : ∃ T2 : Nat, (pp l i).2.2.1 = T2 := ⟨(pp l i).2.2.1.toNat, by have := HP.out.2.2.1; omega⟩
                have HT2 := hid hT2
                have PK := hid (Loop.pick HG.out HR.out HL.out HON.out hkl hlt hoi)
                obtain ⟨sg, hsg⟩ : ∃ sg, (sigs l i0 v q j)[i]?.getD 0 = sg := ⟨_, rfl⟩
                obtain ⟨ot, hot⟩ : ∃ ot, oth (pp l i) V = ot := ⟨_, rfl⟩
                rw [hsg, hV.out, hot] at PK
                have HOT := hid hot
                have HOT2 := hid (show oth ((pp l i).1, (pp l i).2.1, T2, (pp l i).2.2.2) V = ot from by rw [← hot, ← hT2])
                rw [hT2] at x2
                have k0 : (0 : Int) ≤ (i : Int) := by omega
                have k1 : (i : Int) < (n : Int) := by omega
                have k2 : (x : Int) < (m : Int) := by omega
                have k3 : (0 : Int) ≤ (x : Int) := by omega
                clear hT2 hOi hoi hot
                go_wp2_with fail
                refine (i_other _ _ _ _ V _).mono ?_
                rintro e w5 ⟨rfl, hb5⟩
                rw [HOT2.out]
                have HB5 := hid (bstep hb.out hb5)
                have HS5 := hid (hh.out.1.below HB5.out)
                have s5 := HS5.out.cell (k := i) hin
                rw [hsg] at s5
                obtain ⟨n0', n1'⟩ := KA.out _ (bstep HB1.out HB5.out)
                have y2 : w5.cell? ⟨b0, off0 + i * 4 + 2, none⟩ = some (.int .i64 T2) := (hb5.cell (p := ⟨b0, off0 + i * 4 + 2, none⟩) hbw).trans x2
                have f5 := HS5.out.frozen (k := i)
                have hg5 : g4 < w5.heap.size := (HS5.out.lt g4 rfl).2
                have hz5 : w.heap.size < w5.heap.size := World.block_lt_of_cell? w5 _ n0'
                have hb15 : b0 < w5.heap.size := World.block_lt_of_cell? w5 _ y2
                clear hsg hb5 x0 x1 x2 x3 cl n0 n1 hbw
                by_cases hs : sg = 0
                · by_cases ho : ot = 0
                  · have hni := PK.out.1 (.inr ho)
                    subst hs
                    subst ho
                    go_wp2
                    go_roundg (m - (x + 1))
                    case rel => exact ⟨x + 1, by omega, rfl, by go_num, rfl, hid (fun y hy i' hi' => by
                      by_cases e : y = x
                      · subst e
                        rw [HOI.out] at hi'
                        have : i = i' := by omega
                        subst this
                        exact hni
                      · exact hmm.out y (by omega) i' hi'), HB5⟩
                    case measure => omega
                  · have hiq : i = q j := Classical.byContradiction fun e => by
                      rcases PK.out.2 e with h | h
                      · exact h hs
                      · exact ho h
                    subst hs
                    have ho2 : (ot == 0) = false := by simpa using ho
                    have hv1 : ot = v (j + 1) := by rw [← HOT.out, ← hV.out, hiq]; exact HL.out.qst j hlt
                    have hvb := HL.out.vin (j + 1) (by omega)
                    obtain ⟨X, hX⟩ : ∃ X : Nat, ot = X := ⟨ot.toNat, by omega⟩
                    subst hX
                    have HEND := hid (HL.out.ends hlt)
                    have SS1 := hid (HS5.out.set (k := i) 1)
                    have HV1 := hid hv1
                    have HIQ := hid hiq
                    clear hv1 hvb hiq n0' n1' 
                    obtain ⟨n0', n1'⟩ := KA.out _ (bstep HB1.out HB5.out)
                    by_cases hT : T2 = V
                    · have hsgn : sgn l v q j = -1 := by
                        unfold sgn
                        rw [← HIQ.out, hV.out, if_neg]
                        have := HP.out.2.2.2.1
                        have := HT2.out
                        omega
                      have SS2 := hid (SS1.out.1.set (k := i) (-1))
                      have HE := hid (show sigs l i0 v q (j + 1) = ((sigs l i0 v q j).set i 1).set i (-1) from by
                        rw [List.set_set]
                        show (sigs l i0 v q j).set (q j) (sgn l v q j) = _
                        rw [hsgn, HIQ.out])
                      clear hsgn
                      subst hT
                      go_wp2
                      go_roundg (d - (j + 1))
                      case rel => exact ⟨j + 1, X, by omega, rfl, rfl, hid HV1.out.symm, hid ⟨by rw [HE.out]; exact SS2.out.1, grownBy_trans (grownBy_trans (grownBy_trans hh.out.2 (grown_of_below HB5.out _)) SS1.out.2) SS2.out.2⟩⟩
                      case measure => omega
                    · have hsgn : sgn l v q j = 1 := by
                        unfold sgn
                        rw [← HIQ.out, hV.out, if_pos]
                        have h1 := HEND.out
                        rw [← HIQ.out, hV.out] at h1
                        have := HT2.out
                        omega
                      have HE := hid (show sigs l i0 v q (j + 1) = (sigs l i0 v q j).set i 1 from by
                        show (sigs l i0 v q j).set (q j) (sgn l v q j) = _
                        rw [hsgn, HIQ.out])
                      have hTV : ((T2 : Int) == (V : Int)) = false := by simp; omega
                      clear hsgn
                      go_wp2
                      go_roundg (d - (j + 1))
                      case rel => exact ⟨j + 1, X, by omega, rfl, rfl, hid HV1.out.symm, hid ⟨by rw [HE.out]; exact SS1.out.1, grownBy_trans (grownBy_trans hh.out.2 (grown_of_below HB5.out _)) SS1.out.2⟩⟩
                      case measure => omega
                · have hni := PK.out.1 (.inl hs)
                  go_wp2
                  go_roundg (m - (x + 1))
                  case rel => exact ⟨x + 1, by omega, rfl, by go_num, rfl, hid (fun y hy i' hi' => by
                      by_cases e : y = x
                      · subst e
                        rw [HOI.out] at hi'
                        have : i = i' := by omega
                        subst this
                        exact hni
                      · exact hmm.out y (by omega) i' hi'), HB5⟩
                  case measure => omega
              · exfalso
                have hq1 : (q j : Int) ∈ OL := by
                  rw [← HOL.out]
                  exact mem_onsL.2 ⟨q j, by have := HL.out.qlt j hlt; have := HLN.out; omega, rfl, (HL.out.on HG.out HR.out HON.out (HL.out.qlt j hlt)).2 (.inr ⟨j, hlt, rfl⟩)⟩
                obtain ⟨y, hy, hy2⟩ := List.getElem_of_mem hq1
                exact hmm.out y (by have := HM.out; omega) (q j) (by rw [List.getElem?_eq_getElem hy, hy2]; rfl) rfl
          · obtain rfl : d = j := by omega
            have hVF : V = F := by have := hV.out; have := hvd.out; omega
            subst hVF
            go_upto_region 10 with fail
            go_quiet (fail)
            go_wp2
            go_ret
            exact ⟨_, _, rfl, (hh.out.1.below (bdraws _)).mono BA.out.size, bstep (bstep BA.out HB1.out) (bdraws _)⟩

end Go.Proofs.Ytikjighlnpdgiaa

