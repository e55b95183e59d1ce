/-
  Texts of this claim, joined: Bridge, InsQ.
-/
import Derived.Shelf.Spec.SlicesInsertGrow
import Derived.Test.YtikjighlnpdgiaaRr17
import Derived.Test.YtikjighlnpdgiaaRr18
/-
  BridgePipes of the program, at a valid network.
-/
set_option linter.unusedVariables false
set_option linter.unusedSimpArgs false
namespace Go.Proofs.Ytikjighlnpdgiaa
open Go.RowKit

set_option maxRecDepth 100000 in
set_option maxHeartbeats 4000000 in
theorem i_BridgePipes (M : Nat) (a : Option Addr) (n c : Nat) (l : List Pip) (w : World) (h : QAt w a n l) (hg : goodNet M l = true) :
    Calls Try.prog 24 #[.agg #[.int .i64 M, .slice a n c]] w fun e w' => ∃ a' c', e = .returned (.tuple #[.slice a' (bridL l n).length c', .bool true]) ∧ OwnI w' w.heap.size (.slice a' (bridL l n).length c') (bridL l n) ∧ Below w.heap.size w w' := by
  have hM : M ≤ 8 := by have := (goodNet_get hg).1; omega
  have hM1 : 1 ≤ M := by have := (goodNet_get hg).1; omega
  have hln := h.1
  have hn : n ≤ 10 := by have := (goodNet_get hg).2.1; omega
  have HLN := hid h.1
  have H := hid h
  have HG := hid hg
  clear h hg hln
  have M0 : (0 : Int) ≤ (n : Int) := by omega
  go_enter Try.func24, Try.ntmps24
  go_upto_region 1 with fail
  have BA := hid (by go_grown : Below w.heap.size w (w.alloc (.cells #[.int .i64 M, .slice a n c] 31)))
  have N0 := hid (cell_of_row _ _ 0 _ _ (0, 0) (heap_alloc_new w (.cells #[.int .i64 M, .slice a n c] 31)))
  have N1 := hid (cell_of_row _ _ 1 _ _ (0, 0) (heap_alloc_new w (.cells #[.int .i64 M, .slice a n c] 31)))
  have hzA : w.heap.size < (w.alloc (.cells #[.int .i64 M, .slice a n c] 31)).heap.size := by simp
  have n0 := N0.out
  have n1 := N1.out
  simp only [List.getElem?_toArray, List.getElem?_cons_zero, List.getElem?_cons_succ] at n0 n1
  generalize w.alloc (.cells #[.int .i64 M, .slice a n c] 31) = wA at *
  have KA := hid (show ∀ wx, Below wA.heap.size wA wx → (wx.cell? ⟨w.heap.size, 0, none⟩ = some (.int .i64 M) ∧ wx.cell? ⟨w.heap.size, 1, none⟩ = some (.slice a n c)) from fun wx hb => ⟨(hb.cell (p := ⟨w.heap.size, 0, none⟩) hzA).trans n0, (hb.cell (p := ⟨w.heap.size, 1, none⟩) hzA).trans n1⟩)
  go_wp2_with fail
  refine (i_IsValidNetwork M _ _ _ l _ (H.out.below BA.out) (by omega)).mono ?_
  rintro e w1 ⟨rfl, hb1⟩
  rw [HG.out]
  have HB1 := hid hb1
  clear n0 n1 hb1
  obtain ⟨n0, n1⟩ := KA.out _ HB1.out
  have hz1 : w.heap.size < w1.heap.size := World.block_lt_of_cell? w1 _ n0
  go_wp2
  go_loopg [4, 14] n (fun g o i wr => ∃ (k : Nat) (a' : Option Addr) (c' : Nat), k ≤ n ∧ g = n - k ∧ i = .int .i64 k ∧ o = .slice a' (bridL l k).length c' ∧ Hid (OwnI wr wA.heap.size (.slice a' (bridL l k).length c') (bridL l k) ∧ Below wA.heap.size wA wr))
  case atStart => exact ⟨0, _, 0, Nat.zero_le _, rfl, rfl, rfl, hid ⟨(OwnI.lit0 w1).mono HB1.out.size, bstep HB1.out (by go_grown)⟩⟩
  case round =>
    obtain ⟨k, a', c', hk, rfl, rfl, rfl, hh⟩ := hrel
    clear n0 n1
    have hlen := bridL_len l k
    obtain ⟨n0, n1⟩ := KA.out _ hh.out.2
    have hz0 : w.heap.size < wr.heap.size := World.block_lt_of_cell? wr _ n0
    by_cases hlt : k < n
    · obtain ⟨b0, off0, rfl, hbw, x0, x1, x2, x3⟩ := QAt.get (H.out.below (bstep BA.out hh.out.2)) k hlt
      have hkl : k < l.length := by have := HLN.out; omega
      have HP := hid (goodNet_pipe HG.out hkl)
      obtain ⟨T, hT⟩ : ∃ T : Nat, (pp l k).2.2.1 = T := ⟨(pp l k).2.2.1.toNat, by have := HP.out.2.2.1; omega⟩
      have hT1 : 1 ≤ T ∧ T ≤ M := by have := HP.out.2.2.1; omega
      have t0 : (0 : Int) ≤ (T : Int) := by omega
      have t1 : (T : Int) < ((M + 1 : Nat) : Int) := by omega
      have t2 : T < M + 1 := by omega
      have t3 : (T : Int) < (M : Int) + 1 := by omega
      obtain ⟨fd, hfd⟩ : ∃ fd, far l (pp l k).1 (pp l k).2.1 (pp l k).2.2.1 = fd := ⟨_, rfl⟩
      have HD := hid (show (distL M l (pp l k).1 (pp l k).2.1)[T]?.getD 0 = fd from by
        rw [distL_at (by omega) (by omega), ← hT]; exact hfd)
      rw [hT] at x2
      have HON1 := hid (show onL l k = decide (0 ≤ fd) from by unfold onL; rw [hfd])
      clear hT hkl hfd
      obtain ⟨P, hP⟩ : ∃ P, pp l k = P := ⟨_, rfl⟩
      have HPP := hid hP
      rw [hP] at x0 x1 x3 HP HD
      clear hP
      go_upto_region 7 with fail
      have BP := hid (bstep hh.out.2 (by go_grown) : Below wA.heap.size wA (wr.alloc (.cells #[.int .i64 P.1, .int .i64 P.2.1, .int .i64 T, .int .i64 P.2.2.2] 71)))
      have HW := hid (hh.out.1.alloc (.cells #[.int .i64 P.1, .int .i64 P.2.1, .int .i64 T, .int .i64 P.2.2.2] 71))
      have PB := hid (last_new wr (.cells #[.int .i64 P.1, .int .i64 P.2.1, .int .i64 T, .int .i64 P.2.2.2] 71) _ rfl)
      have hzp : wr.heap.size < (wr.alloc (.cells #[.int .i64 P.1, .int .i64 P.2.1, .int .i64 T, .int .i64 P.2.2.2] 71)).heap.size := by simp
      generalize wr.alloc (.cells #[.int .i64 P.1, .int .i64 P.2.1, .int .i64 T, .int .i64 P.2.2.2] 71) = wp at *
      clear x0 x1 x2 x3 hbw hh hz0 n0 n1
      have p0 : wp.cell? ⟨wr.heap.size, 0, none⟩ = some (.int .i64 P.1) := by rw [cell_of_row wp _ _ _ _ (0, 0) PB.out]; rfl
      have p1 : wp.cell? ⟨wr.heap.size, 1, none⟩ = some (.int .i64 P.2.1) := by rw [cell_of_row wp _ _ _ _ (0, 0) PB.out]; rfl
      have p2 : wp.cell? ⟨wr.heap.size, 2, none⟩ = some (.int .i64 T) := by rw [cell_of_row wp _ _ _ _ (0, 0) PB.out]; rfl
      obtain ⟨n0, n1⟩ := KA.out _ BP.out
      have hz0 : w.heap.size < wp.heap.size := World.block_lt_of_cell? wp _ n0
      have KP := hid (show ∀ wx, Below wp.heap.size wp wx → (wx.cell? ⟨w.heap.size, 0, none⟩ = some (.int .i64 M) ∧ wx.cell? ⟨w.heap.size, 1, none⟩ = some (.slice (some ⟨b0, off0, none⟩) n c) ∧ wx.cell? ⟨wr.heap.size, 0, none⟩ = some (.int .i64 P.1) ∧ wx.cell? ⟨wr.heap.size, 1, none⟩ = some (.int .i64 P.2.1) ∧ wx.cell? ⟨wr.heap.size, 2, none⟩ = some (.int .i64 T)) from fun wx hb => ⟨(hb.cell (p := ⟨w.heap.size, 0, none⟩) hz0).trans n0, (hb.cell (p := ⟨w.heap.size, 1, none⟩) hz0).trans n1, (hb.cell (p := ⟨wr.heap.size, 0, none⟩) hzp).trans p0, (hb.cell (p := ⟨wr.heap.size, 1, none⟩) hzp).trans p1, (hb.cell (p := ⟨wr.heap.size, 2, none⟩) hzp).trans p2⟩)
      by_cases hp : 0 ≤ fd
      · have hp2 : ¬ fd < 0 := by omega
        have E := hid (bridL_yes (l := l) (k := k) (by rw [HON1.out]; simpa using hp))
        go_cut [28] (fun s wx => s = .bool false ∧ Hid (Below wp.heap.size wp wx))
        case first =>
          refine wp_region_noPanic ?_
          refine wp_region_held_drew (S := fun w' => (w'.cell? ⟨w.heap.size, 0, none⟩ = some (.int .i64 M) ∧ w'.cell? ⟨w.heap.size, 1, none⟩ = some (.slice (some ⟨b0, off0, none⟩) n c) ∧ w'.cell? ⟨wr.heap.size, 0, none⟩ = some (.int .i64 P.1) ∧ w'.cell? ⟨wr.heap.size, 1, none⟩ = some (.int .i64 P.2.1) ∧ w'.cell? ⟨wr.heap.size, 2, none⟩ = some (.int .i64 T))) (by kernel_rfl) (by exact ⟨n0, n1, p0, p1, p2⟩) (fun hHeld => ?_)
          refine wpAnyH_take' (i := 0) (v := ?_) rfl (by kernel_rfl) (by kernel_rfl) (by kernel_rfl) (fun _ _ _ h => h) (Or.inl ⟨by rfl, ?_⟩) (by assumption) ?_
          rotate_left
          · (intro w' hSw; (try dsimp only at hSw); go_simp; all_goals with_reducible rfl)
          try simp only [Act.put, List.setIfInBounds_toArray, List.set_cons_zero, List.set_cons_succ]
          refine wpAnyH_take' (i := 1) (v := ?_) rfl (by kernel_rfl) (by kernel_rfl) (by kernel_rfl) (fun _ _ _ h => h) (Or.inl ⟨by rfl, ?_⟩) (by assumption) ?_
          rotate_left
          · (intro w' hSw; (try dsimp only at hSw); go_simp; all_goals with_reducible rfl)
          try simp only [Act.put, List.setIfInBounds_toArray, List.set_cons_zero, List.set_cons_succ]
          refine wpAnyH_take' (i := 2) (v := ?_) rfl (by kernel_rfl) (by kernel_rfl) (by kernel_rfl) (fun _ _ _ h => h) (Or.inl ⟨by rfl, ?_⟩) (by assumption) ?_
          rotate_left
          · (intro w' hSw; (try dsimp only at hSw); go_simp; all_goals with_reducible rfl)
          try simp only [Act.put, List.setIfInBounds_toArray, List.set_cons_zero, List.set_cons_succ]
          refine wpAnyH_take' (i := 3) (v := ?_) rfl (by kernel_rfl) (by kernel_rfl) (by kernel_rfl) (fun _ _ _ h => h) (Or.inl ⟨by rfl, ?_⟩) (by assumption) ?_
          rotate_left
          · (intro w' hSw; (try dsimp only at hSw); go_simp; all_goals with_reducible rfl)
          try simp only [Act.put, List.setIfInBounds_toArray, List.set_cons_zero, List.set_cons_succ]
          refine wpAnyH_take' (i := 4) (v := ?_) rfl (by kernel_rfl) (by kernel_rfl) (by kernel_rfl) (fun _ _ _ h => h) (Or.inl ⟨by rfl, ?_⟩) (by assumption) ?_
          rotate_left
          · (intro w' hSw; (try dsimp only at hSw); go_simp; all_goals with_reducible rfl)
          try simp only [Act.put, List.setIfInBounds_toArray, List.set_cons_zero, List.set_cons_succ]
          refine wpAnyH_take' (i := 6) (v := ?_) rfl (by kernel_rfl) (by kernel_rfl) (by kernel_rfl) (fun _ _ _ h => h) (Or.inl ⟨by rfl, ?_⟩) (by assumption) ?_
          rotate_left
          · (intro w' hSw; (try dsimp only at hSw); go_simp; all_goals with_reducible rfl)
          try simp only [Act.put, List.setIfInBounds_toArray, List.set_cons_zero, List.set_cons_succ]
          refine wpAnyH_take' (i := 7) (v := ?_) rfl (by kernel_rfl) (by kernel_rfl) (by kernel_rfl) (fun _ _ _ h => h) (Or.inl ⟨by rfl, ?_⟩) (by assumption) ?_
          rotate_left
          · (intro w' hSw; (try dsimp only at hSw); go_simp; all_goals with_reducible rfl)
          try simp only [Act.put, List.setIfInBounds_toArray, List.set_cons_zero, List.set_cons_succ]
          refine wpAnyH_ready (rs := [5]) (by kernel_rfl) (by simp) ?_
          refine allReadyH_cons' rfl (fun K hK => ?_) AllReadyH.nil
          go_simp
          go_at_call 68
          refine (i_distances M P.2.1 P.1 _ _ _ l _ (H.out.below (bstep BA.out (bstep BP.out (by go_grown)))) HG.out HP.out.2.1).mono ?_
          rintro e w5 ⟨a5, c5, rfl, ho5, hb5⟩
          obtain ⟨g5, rfl, -, -⟩ := own_some ho5 (by omega)
          have d5 := ho5.cell (k := T) t2
          rw [HD.out] at d5
          have hbA : Below wp.heap.size wp w5 := bstep ((Below.refl _ _).drew : Below wp.heap.size wp wp.drew) hb5
          refine hK.out _ _ (KP.out _ hbA) (fun hHeld5 => ?_)
          clear hK K
          try simp only [Act.put, List.setIfInBounds_toArray, List.set_cons_zero, List.set_cons_succ]
          refine wpAnyH_take' (i := 8) (v := ?_) rfl (by kernel_rfl) (by kernel_rfl) (by kernel_rfl) (fun _ _ _ h => h) (Or.inl ⟨by rfl, ?_⟩) (by assumption) ?_
          rotate_left
          · (intro w' hSw; (try dsimp only at hSw); go_simp; all_goals with_reducible rfl)
          try simp only [Act.put, List.setIfInBounds_toArray, List.set_cons_zero, List.set_cons_succ]
          refine wpAnyH_ready (rs := [9]) (by kernel_rfl) (by simp) ?_
          refine allReadyH_cons' rfl (fun K hK => ?_) AllReadyH.nil
          go_simp
          refine hK.out _ _ (KP.out _ hbA) (fun hHeld6 => ?_)
          clear hK K
          try simp only [Act.put, List.setIfInBounds_toArray, List.set_cons_zero, List.set_cons_succ]
          refine wpAnyH_take' (i := 10) (v := ?_) rfl (by kernel_rfl) (by kernel_rfl) (by kernel_rfl) (fun _ _ _ h => h) (Or.inl ⟨by rfl, ?_⟩) (by assumption) ?_
          rotate_left
          · (intro w' hSw; (try dsimp only at hSw); go_simp; all_goals with_reducible rfl)
          try simp only [Act.put, List.setIfInBounds_toArray, List.set_cons_zero, List.set_cons_succ]
          refine wpAnyH_done (by kernel_rfl) ?_ _
          refine NoPanic.normal ?_
          go_wp2_with fail
          go_meet
          exact ⟨by simp [*], hid hbA⟩
        case rest =>
          obtain ⟨rfl, hx⟩ := hcut
          have S2 := hid (show OwnI wc wA.heap.size (.slice a' (bridL l k).length c') (bridL l k) ∧ Below wA.heap.size wA wc from ⟨HW.out.below hx.out, bstep BP.out hx.out⟩)
          clear n0 n1 p0 p1 p2 hz0
          go_wp2
          go_roundg (n - (k + 1))
          case rel => exact ⟨k + 1, a', c', by omega, rfl, by go_num, by rw [E.out], hid (by rw [E.out]; exact S2.out)⟩
          case measure => omega
      · have hp2 : fd < 0 := by omega
        have E := hid (bridL_no (l := l) (k := k) (by rw [HON1.out]; simpa using hp))
        rw [HPP.out] at E
        go_cut [28] (fun s wx => s = .bool true ∧ Hid (Below wp.heap.size wp wx))
        case first =>
          refine wp_region_noPanic ?_
          refine wp_region_held_drew (S := fun w' => (w'.cell? ⟨w.heap.size, 0, none⟩ = some (.int .i64 M) ∧ w'.cell? ⟨w.heap.size, 1, none⟩ = some (.slice (some ⟨b0, off0, none⟩) n c) ∧ w'.cell? ⟨wr.heap.size, 0, none⟩ = some (.int .i64 P.1) ∧ w'.cell? ⟨wr.heap.size, 1, none⟩ = some (.int .i64 P.2.1) ∧ w'.cell? ⟨wr.heap.size, 2, none⟩ = some (.int .i64 T))) (by kernel_rfl) (by exact ⟨n0, n1, p0, p1, p2⟩) (fun hHeld => ?_)
          refine wpAnyH_take' (i := 0) (v := ?_) rfl (by kernel_rfl) (by kernel_rfl) (by kernel_rfl) (fun _ _ _ h => h) (Or.inl ⟨by rfl, ?_⟩) (by assumption) ?_
          rotate_left
          · (intro w' hSw; (try dsimp only at hSw); go_simp; all_goals with_reducible rfl)
          try simp only [Act.put, List.setIfInBounds_toArray, List.set_cons_zero, List.set_cons_succ]
          refine wpAnyH_take' (i := 1) (v := ?_) rfl (by kernel_rfl) (by kernel_rfl) (by kernel_rfl) (fun _ _ _ h => h) (Or.inl ⟨by rfl, ?_⟩) (by assumption) ?_
          rotate_left
          · (intro w' hSw; (try dsimp only at hSw); go_simp; all_goals with_reducible rfl)
          try simp only [Act.put, List.setIfInBounds_toArray, List.set_cons_zero, List.set_cons_succ]
          refine wpAnyH_take' (i := 2) (v := ?_) rfl (by kernel_rfl) (by kernel_rfl) (by kernel_rfl) (fun _ _ _ h => h) (Or.inl ⟨by rfl, ?_⟩) (by assumption) ?_
          rotate_left
          · (intro w' hSw; (try dsimp only at hSw); go_simp; all_goals with_reducible rfl)
          try simp only [Act.put, List.setIfInBounds_toArray, List.set_cons_zero, List.set_cons_succ]
          refine wpAnyH_take' (i := 3) (v := ?_) rfl (by kernel_rfl) (by kernel_rfl) (by kernel_rfl) (fun _ _ _ h => h) (Or.inl ⟨by rfl, ?_⟩) (by assumption) ?_
          rotate_left
          · (intro w' hSw; (try dsimp only at hSw); go_simp; all_goals with_reducible rfl)
          try simp only [Act.put, List.setIfInBounds_toArray, List.set_cons_zero, List.set_cons_succ]
          refine wpAnyH_take' (i := 4) (v := ?_) rfl (by kernel_rfl) (by kernel_rfl) (by kernel_rfl) (fun _ _ _ h => h) (Or.inl ⟨by rfl, ?_⟩) (by assumption) ?_
          rotate_left
          · (intro w' hSw; (try dsimp only at hSw); go_simp; all_goals with_reducible rfl)
          try simp only [Act.put, List.setIfInBounds_toArray, List.set_cons_zero, List.set_cons_succ]
          refine wpAnyH_take' (i := 6) (v := ?_) rfl (by kernel_rfl) (by kernel_rfl) (by kernel_rfl) (fun _ _ _ h => h) (Or.inl ⟨by rfl, ?_⟩) (by assumption) ?_
          rotate_left
          · (intro w' hSw; (try dsimp only at hSw); go_simp; all_goals with_reducible rfl)
          try simp only [Act.put, List.setIfInBounds_toArray, List.set_cons_zero, List.set_cons_succ]
          refine wpAnyH_take' (i := 7) (v := ?_) rfl (by kernel_rfl) (by kernel_rfl) (by kernel_rfl) (fun _ _ _ h => h) (Or.inl ⟨by rfl, ?_⟩) (by assumption) ?_
          rotate_left
          · (intro w' hSw; (try dsimp only at hSw); go_simp; all_goals with_reducible rfl)
          try simp only [Act.put, List.setIfInBounds_toArray, List.set_cons_zero, List.set_cons_succ]
          refine wpAnyH_ready (rs := [5]) (by kernel_rfl) (by simp) ?_
          refine allReadyH_cons' rfl (fun K hK => ?_) AllReadyH.nil
          go_simp
          go_at_call 68
          refine (i_distances M P.2.1 P.1 _ _ _ l _ (H.out.below (bstep BA.out (bstep BP.out (by go_grown)))) HG.out HP.out.2.1).mono ?_
          rintro e w5 ⟨a5, c5, rfl, ho5, hb5⟩
          obtain ⟨g5, rfl, -, -⟩ := own_some ho5 (by omega)
          have d5 := ho5.cell (k := T) t2
          rw [HD.out] at d5
          have hbA : Below wp.heap.size wp w5 := bstep ((Below.refl _ _).drew : Below wp.heap.size wp wp.drew) hb5
          refine hK.out _ _ (KP.out _ hbA) (fun hHeld5 => ?_)
          clear hK K
          try simp only [Act.put, List.setIfInBounds_toArray, List.set_cons_zero, List.set_cons_succ]
          refine wpAnyH_take' (i := 8) (v := ?_) rfl (by kernel_rfl) (by kernel_rfl) (by kernel_rfl) (fun _ _ _ h => h) (Or.inl ⟨by rfl, ?_⟩) (by assumption) ?_
          rotate_left
          · (intro w' hSw; (try dsimp only at hSw); go_simp; all_goals with_reducible rfl)
          try simp only [Act.put, List.setIfInBounds_toArray, List.set_cons_zero, List.set_cons_succ]
          refine wpAnyH_ready (rs := [9]) (by kernel_rfl) (by simp) ?_
          refine allReadyH_cons' rfl (fun K hK => ?_) AllReadyH.nil
          go_simp
          refine hK.out _ _ (KP.out _ hbA) (fun hHeld6 => ?_)
          clear hK K
          try simp only [Act.put, List.setIfInBounds_toArray, List.set_cons_zero, List.set_cons_succ]
          refine wpAnyH_take' (i := 10) (v := ?_) rfl (by kernel_rfl) (by kernel_rfl) (by kernel_rfl) (fun _ _ _ h => h) (Or.inl ⟨by rfl, ?_⟩) (by assumption) ?_
          rotate_left
          · (intro w' hSw; (try dsimp only at hSw); go_simp; all_goals with_reducible rfl)
          try simp only [Act.put, List.setIfInBounds_toArray, List.set_cons_zero, List.set_cons_succ]
          refine wpAnyH_done (by kernel_rfl) ?_ _
          refine NoPanic.normal ?_
          go_wp2_with fail
          go_meet
          exact ⟨by simp [*], hid hbA⟩
        case rest =>
          obtain ⟨rfl, hx⟩ := hcut
          have ho2 := HW.out.below hx.out
          have hb2 := bstep BP.out hx.out
          clear n0 n1 p0 p1 p2 hz0
          obtain ⟨-, -, p0, -, -⟩ := KP.out _ hx.out
          go_wp2_with (at_builtin; refine wp_append_ints _ rfl _ _ rfl wA.heap.size _ (bridL l k) rfl (ho2.alloc _) _ 1 1 [P.1] rfl (IntsAt.single _ _) ((bridL l k).length + 1) (by simp) (by omega) (by have := hb2.size; simp; omega) ?_)
          intro a2 c2 w5 hown hgrow hblk
          have hl2 : (bridL l k).length + 1 = (bridL l (k + 1)).length := by rw [E.out]; simp
          rw [hl2] at hown hblk ⊢
          have S2 := hid (show OwnI w5 wA.heap.size (.slice a2 (bridL l (k + 1)).length c2) (bridL l (k + 1)) ∧ Below wA.heap.size wA w5 from by
            refine ⟨by rw [E.out] at hown ⊢; exact hown, (bstep hb2 (by go_grown)).grown hgrow (by have := hb2.size; simp; omega) (fun q hq => (ho2.lt q hq).1)⟩)
          clear hown hgrow hblk hl2 ho2 hb2 p0
          go_wp2
          go_roundg (n - (k + 1))
          case rel => exact ⟨k + 1, _, _, by omega, rfl, by go_num, rfl, S2⟩
          case measure => omega
    · obtain rfl : n = k := by omega
      go_wp2
      go_ret2
      exact ⟨_, _, rfl, hh.out.1.mono BA.out.size, bstep BA.out hh.out.2⟩

end Go.Proofs.Ytikjighlnpdgiaa

/-
  slices.Insert of one number into a slice of the call's own, by the library's contracts.
-/
set_option linter.unusedVariables false
set_option linter.unusedSimpArgs false
namespace Go.Proofs.Ytikjighlnpdgiaa
open Go.RowKit

def insRen : Go.Shelf.Ren where
  f := fun x => match x with
    | 21 => 48
    | 27 => 84
    | 28 => 85
    | 35 => 104
    | 39 => 107
    | n => n
  t := fun x => match x with
    | 22 => 25
    | 3 => 3
    | 4 => 4
    | 0 => 0
    | n => n
  g := fun x => x
theorem insLays : Lays2.n21 Try.prog insRen :=
  { mixed := by kernel_rfl
    f21 := Try.func48.trans (congrArg some (by kernel_rfl))
    f27 := Try.func84.trans (congrArg some (by kernel_rfl))
    f28 := Try.func85.trans (congrArg some (by kernel_rfl))
    f35 := Try.func104.trans (congrArg some (by kernel_rfl))
    f39 := Try.func107.trans (congrArg some (by kernel_rfl))
    t0 := Try.underlying0, a0 := Try.isAgg0, z0 := Try.sizeOf0, v0 := Try.zeroValue0
    t3 := Try.underlying3, a3 := Try.isAgg3, z3 := Try.sizeOf3, v3 := Try.zeroValue3
    t4 := Try.underlying4, a4 := Try.isAgg4, z4 := Try.sizeOf4, v4 := Try.zeroValue4
    t22 := Try.underlying25, a22 := Try.isAgg25, z22 := Try.sizeOf25, v22 := Try.zeroValue25
    i3 := by kernel_rfl }

theorem ins_step {w a b : World} {g : Nat} {row : Option Nat} (h1 : w.grownBy a (some g)) (h2 : a.grownBy b row) (hr : ∀ k, row = some k → w.heap.size ≤ k ∨ k = g) : w.grownBy b (some g) := by
  refine ⟨h2.os.trans h1.os, h2.tape.trans h1.tape, h2.output.trans h1.output, Nat.le_trans h1.size h2.size, fun i hi hne => ?_⟩
  rw [h2.block i (by have := h1.size; omega) (fun e => ?_), h1.block i hi hne]
  rcases hr i e.symm with h | h
  · omega
  · exact hne (by rw [h])
theorem putL_len : ∀ (vs xs : List Value) (o : Nat), (putL xs o vs).length = xs.length
  | [], xs, o => rfl
  | v :: r, xs, o => by rw [putL, putL_len r, List.length_set]
/-- What stood from i on, one place further, and one number at i. -/
theorem putL_ins (cs : List Value) (u v : Value) {i : Nat} (hi : i ≤ cs.length) : putL (putL (cs ++ [u]) (i + 1) (cs.drop i)) i [v] = cs.take i ++ [v] ++ cs.drop i := by
  have h1 : putL (cs ++ [u]) (i + 1) (cs.drop i) = (cs ++ [u]).take (i + 1) ++ cs.drop i := by
    rw [putL_eq _ _ _ (by simp; omega), List.drop_of_length_le (l := cs ++ [u]) (by simp; omega), List.append_nil]
  have hl : ((cs ++ [u]).take (i + 1)).length = i + 1 := by simp; omega
  rw [h1, putL_eq _ _ _ (by rw [List.length_append, hl]; simp <;> omega)]
  rw [List.take_append_of_le_length (by omega), List.take_take, Nat.min_eq_left (by omega), List.take_append_of_le_length hi]
  congr 1
  rw [List.drop_append_of_le_length (by rw [hl]; simp), List.drop_of_length_le (by rw [hl]; simp), List.nil_append]
theorem putL_new (cs : List Value) (zs : List Value) (v : Value) {i : Nat} (hi : i ≤ cs.length) (hz : zs.length = cs.length + 1 - i) : putL (putL (cs.take i ++ zs) i [v]) (i + 1) (cs.drop i) = cs.take i ++ [v] ++ cs.drop i := by
  have hl : (cs.take i).length = i := by simp; omega
  have h1 : putL (cs.take i ++ zs) i [v] = cs.take i ++ [v] ++ zs.drop 1 := by
    rw [putL_eq _ _ _ (by rw [List.length_append, hl]; simp; omega), List.take_append_of_le_length (by omega), List.take_of_length_le (by omega), List.drop_append, List.drop_of_length_le (by rw [hl]; simp), List.nil_append, hl]
    congr 2
    simp
  rw [h1, putL_eq _ _ _ (by simp; omega)]
  have h2 : (cs.take i ++ [v]).length = i + 1 := by rw [List.length_append, hl]; rfl
  rw [List.take_append_of_le_length (by omega), List.take_of_length_le (by omega), List.drop_of_length_le (l := cs.take i ++ [v] ++ zs.drop 1) (by simp; omega), List.append_nil]

theorem row_grow {w : World} {B g n c : Nat} {e : TypeId} {cur : Array Value} {xs : List Value} (hx : xs.length = n) (hB : B ≤ g) (hg : w.heap[g]? = some (.cells cur e (0, 0))) (hs : cur.size = c) (ht : cur.toList.take n = xs) (hc : n + 1 ≤ c) (hm : c ≤ maxLen) :
    ∃ u, w.ownsRow B e 1 (.slice (some ⟨g, 0, none⟩) (n + 1) c) (n + 1) (xs ++ [u]) := by
  refine ⟨cur.toList[n]'(by simp; omega), by simp [hx], .inr ⟨g, c, cur, rfl, hB, hg, hc, hm, by omega, ?_⟩⟩
  rw [Nat.mul_one, List.take_add_one, ht, List.getElem?_eq_getElem (by simp; omega)]
  rfl
theorem row_new {w : World} {B n c : Nat} {e : TypeId} {cur : Array Value} (hB : B ≤ w.heap.size) (hs : cur.size = c) (hc : n ≤ c) (hm : c ≤ maxLen) : (w.alloc (.cells cur e)).ownsRow B e 1 (.slice (some ⟨w.heap.size, 0, none⟩) n c) n (cur.toList.take n) := by
  refine ⟨by simp; omega, .inr ⟨w.heap.size, c, cur, rfl, hB, heap_alloc_new _ _, hc, hm, by omega, by rw [Nat.mul_one]⟩⟩

set_option maxHeartbeats 4000000 in
theorem f_Insert (g n c i vb vc B : Nat) (x : Int) (l : List Int) (w : World) (h : OwnI w B (.slice (some ⟨g, 0, none⟩) n c) l) (hn : n ≤ 1000) (h0 : 0 < n) (hi : i ≤ n) (hB : B ≤ w.heap.size) (hv : w.heap[vb]? = some (.cells #[.int .i64 x] 3 (0, 0))) (hvg : vb ≠ g) :
    Calls Try.prog 48 #[.slice (some ⟨g, 0, none⟩) n c, .int .i64 i, .slice (some ⟨vb, 0, none⟩) 1 vc] w fun e w' => ∃ g' c', e = .returned (.slice (some ⟨g', 0, none⟩) (n + 1) c') ∧ OwnI w' B (.slice (some ⟨g', 0, none⟩) (n + 1) c') (l.take i ++ [x] ++ l.drop i) ∧ w.grownBy w' (some g) := by
  have hl := h.len
  have hgz := (h.lt g rfl).2
  obtain ⟨cur, hBg, hg, hnc, hm, hs, ht⟩ : ∃ cur : Array Value, B ≤ g ∧ w.heap[g]? = some (.cells cur 3 (0, 0)) ∧ n ≤ c ∧ c ≤ maxLen ∧ cur.size = c ∧ cur.toList.take n = l.map (Value.int .i64) := by
    rcases h.row.2 with ⟨h1, -⟩ | ⟨g', cap, cur, h1, hB, hg, hnc, hm, hs, ht⟩
    · simp at h1
    · simp only [Value.slice.injEq, Option.some.injEq, Addr.mk.injEq, and_true] at h1
      obtain ⟨rfl, -, rfl⟩ := h1
      exact ⟨cur, hB, hg, hnc, hm, by omega, by rw [← ht, Nat.mul_one]⟩
  obtain ⟨cs, hcs⟩ : ∃ cs, l.map (Value.int .i64) = cs := ⟨_, rfl⟩
  have hcl : cs.length = n := by rw [← hcs, List.length_map, hl]
  rw [hcs] at ht
  have hfin : cs.take i ++ [Value.int .i64 x] ++ cs.drop i = (l.take i ++ [x] ++ l.drop i).map (Value.int .i64) := by
    rw [← hcs]
    simp [List.map_take, List.map_drop]
  have h1c : ∀ v ∈ cs, v.oneCell' = true := by
    intro v hv
    rw [← hcs] at hv
    obtain ⟨y, -, rfl⟩ := List.mem_map.1 hv
    rfl
  have h1v : ∀ v ∈ [Value.int .i64 x], v.oneCell' = true := by
    intro v hv
    obtain rfl := List.mem_singleton.1 hv
    rfl
  have hcell : ∀ j v, cs[j]? = some v → w.cell? ⟨g, 0 + j, none⟩ = some v := by
    intro j v hj
    have hjn : j < n := by rw [← hcl]; exact (List.getElem?_eq_some_iff.1 hj).1
    rw [Nat.zero_add, cell_of_row w _ _ _ _ (0, 0) hg, ← hj, ← ht, List.getElem?_take_of_lt hjn, Array.getElem?_toList]
  have hvs : ∀ j v, [Value.int .i64 x][j]? = some v → w.cell? ⟨vb, 0 + j, none⟩ = some v := by
    intro j v hj
    rw [Nat.zero_add, cell_of_row w _ _ _ _ (0, 0) hv, ← hj]
    show ([Value.int .i64 x].toArray)[j]? = _
    simp
  have hc63 : c ≤ 9223372036854775807 := by unfold maxLen at hm; omega
  by_cases hroom : n + 1 ≤ c
  · obtain ⟨u, hrow⟩ := row_grow hcl hBg hg hs ht hroom hm
    by_cases hin : i < n
    · refine (Any2.slices_Insert_int_shift insLays g 0 n c i vb 0 1 vc cs [.int .i64 x] w hin (by omega) hroom hc63 hvg hcl rfl hcell (fun j hj => ?_) (fun j hj => by rw [Nat.zero_add]; exact frozen_of_row w g j _ _ hg) hvs h1c h1v 3 3 1 c (by simp [World.shape?, hv]) (by simp [World.shape?, hg, hs]) (by omega) (frozen_of_row w vb 0 _ _ hv) (frozen_of_row w vb 1 _ _ hv)).mono ?_
      · rw [Nat.zero_add, cell_of_row w _ _ _ _ (0, 0) hg, Array.getElem?_eq_getElem (by omega)]
        rfl
      · rintro e w' ⟨rfl, rfl⟩
        rw [Nat.zero_add, Nat.zero_add]
        obtain ⟨a1, a2⟩ := own_setCells (cs.drop i) (i + 1) w.drew _ (World.ownsRow.drew hrow)
        obtain ⟨a3, a4⟩ := own_setCells [.int .i64 x] i _ _ a1
        rw [putL_ins cs u _ (by omega), hfin] at a3
        exact ⟨g, c, rfl, OwnI.of_row a3, grownBy_trans (grownBy_trans (grown_of_below ((Below.refl _ _).drew) _) a2) a4⟩
    · obtain rfl : i = n := by omega
      refine (Any2.slices_Insert_int_end_room insLays g 0 i c vb 0 1 vc [.int .i64 x] w (by omega) hroom hc63 rfl (fun j hj => ?_) (fun j hj => by exact frozen_of_row w g _ _ _ hg) hvs h1v).mono ?_
      · rw [Nat.zero_add, cell_of_row w _ _ _ _ (0, 0) hg, Array.getElem?_eq_getElem (by omega)]
        rfl
      · rintro e w' ⟨rfl, rfl⟩
        rw [Nat.zero_add]
        obtain ⟨a1, a2⟩ := own_setCells [.int .i64 x] i w _ hrow
        rw [putL_eq _ _ _ (by simp; omega), List.take_append_of_le_length (by omega), List.drop_of_length_le (by simp; omega), List.append_nil] at a1
        have e1 : cs.take i ++ [Value.int .i64 x] = (l.take i ++ [x] ++ l.drop i).map (Value.int .i64) := by
          rw [← hfin, List.drop_of_length_le (by omega), List.append_nil]
        rw [e1] at a1
        exact ⟨g, c, rfl, OwnI.of_row a1, a2⟩
  · obtain rfl : n = c := by omega
    have hG1 := grownCap_ge w (n + 1) n 3
    have hG2 := grownCap_le_maxLen w (n + 1) n 3 (by unfold maxLen; omega)
    by_cases hin : i < n
    · refine (Any2.slices_Insert_int_grow insLays g 0 n n i vb 0 1 vc cs [.int .i64 x] w hin (by omega) (Nat.le_refl _) (by omega) (by omega) hcl rfl hcell hvs h1c h1v).mono ?_
      rintro e w' ⟨rfl, rfl⟩
      have a0 := row_new (w := w) (B := B) (n := n + 1) (e := 3) (cur := (cs.take i).toArray ++ Builtin.zeroCells (Value.int .i64 0).cells (n + 1 - i) ++ Builtin.zeroCells (Value.int .i64 0).cells (grownCap w (n + 1) n 3 - (n + 1))) hB (by simp [Builtin.zeroCells, Value.cells]; omega) hG1 hG2
      have ez : (((cs.take i).toArray ++ Builtin.zeroCells (Value.int .i64 0).cells (n + 1 - i) ++ Builtin.zeroCells (Value.int .i64 0).cells (grownCap w (n + 1) n 3 - (n + 1))).toList.take (n + 1)) = cs.take i ++ (Builtin.zeroCells (Value.int .i64 0).cells (n + 1 - i)).toList := by
        rw [Array.toList_append, List.take_append_of_le_length (by simp [Builtin.zeroCells, Value.cells]; omega), List.take_of_length_le (by simp [Builtin.zeroCells, Value.cells]; omega)]
        simp
      rw [ez] at a0
      obtain ⟨a1, a2⟩ := own_setCells [.int .i64 x] i _ _ (World.ownsRow.drew a0)
      obtain ⟨a3, a4⟩ := own_setCells (cs.drop i) (i + 1) _ _ (World.ownsRow.drew a1)
      rw [putL_new cs _ _ (by omega) (by simp [Builtin.zeroCells, Value.cells]; omega), hfin] at a3
      refine ⟨w.heap.size, _, rfl, OwnI.of_row a3, ?_⟩
      exact ins_step (ins_step (ins_step (ins_step (grown_of_below ((Below.refl _ _).alloc (Nat.le_refl _) _) _) (grown_of_below ((Below.refl _ _).drew) none) (fun k e => by cases e)) a2 (fun k e => by cases e; exact .inl (Nat.le_refl _))) (grown_of_below ((Below.refl _ _).drew) none) (fun k e => by cases e)) a4 (fun k e => by cases e; exact .inl (Nat.le_refl _))
    · obtain rfl : i = n := by omega
      refine (Any2.slices_Insert_int_end_grow insLays (some ⟨g, 0, none⟩) i i vb 0 1 vc cs [.int .i64 x] w (by omega) (Nat.le_refl _) (by omega) (by omega) hcl rfl (fun e => by cases e) (fun a ha j v hj => by cases ha; rw [Addr.add_lit]; exact hcell j v hj) hvs h1v).mono ?_
      rintro e w' ⟨rfl, rfl⟩
      have a0 := row_new (w := w.drew) (B := B) (n := i + 1) (e := 3) (cur := (cs ++ [Value.int .i64 x]).toArray ++ Builtin.zeroCells (Value.int .i64 0).cells (grownCap w (i + 1) i 3 - (i + 1))) hB (by simp [Builtin.zeroCells, Value.cells]; omega) hG1 hG2
      have ez : (((cs ++ [Value.int .i64 x]).toArray ++ Builtin.zeroCells (Value.int .i64 0).cells (grownCap w (i + 1) i 3 - (i + 1))).toList.take (i + 1)) = (l.take i ++ [x] ++ l.drop i).map (Value.int .i64) := by
        rw [Array.toList_append, List.take_append_of_le_length (by simp; omega), List.take_of_length_le (by simp; omega), ← hfin, List.take_of_length_le (by omega), List.drop_of_length_le (by omega), List.append_nil]
      rw [ez] at a0
      exact ⟨w.heap.size, _, rfl, OwnI.of_row a0, ins_step (grown_of_below ((Below.refl _ _).drew) _) (grown_of_below ((Below.refl _ _).alloc (Nat.le_refl _) _) none) (fun k e => by cases e)⟩

end Go.Proofs.Ytikjighlnpdgiaa

