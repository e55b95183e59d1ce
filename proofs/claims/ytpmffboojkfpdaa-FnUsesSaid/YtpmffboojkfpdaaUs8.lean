/-
  Texts of this claim, joined: Peak, ProfL, ProfL2.
-/
import Derived.Test.YtpmffboojkfpdaaUs2
import Derived.Test.YtpmffboojkfpdaaUs3
import Derived.Test.YtpmffboojkfpdaaUs4
import Derived.Test.YtpmffboojkfpdaaUs7
/-
  PeakHour and QuietestHours, in the program and in the reference.
-/
set_option linter.unusedVariables false
set_option linter.unusedSimpArgs false
namespace Go.Proofs.Ytpmffboojkfpdaa
open Go.RowKit

/-- What PeakHour returns. -/
def peakR (l : List Int) : Int × Int × Bool := if goodProf l = true then ((pkTo l 24 : Nat), el l (pkTo l 24), true) else (0, 0, false)

set_option maxHeartbeats 2000000 in
theorem i_PeakHour (a : Option Addr) (n c : Nat) (l : List Int) (w : World) (h : IntsAt w a n l) (hn : n ≤ 1048576) (x y : Int) (z : Bool) (hR : peakR l = (x, y, z)) :
    Calls Try.prog 31 #[.agg #[.slice a n c]] w fun e w' => e = .returned (.tuple #[.int .i64 x, .int .i64 y, .bool z]) ∧ Below w.heap.size w w' := by
  have hl := h.1
  have H := hid h
  clear h
  cases hg : goodProf l
  · have HG := hid hg
    unfold peakR at hR
    rw [hg] at hR
    simp only [Bool.false_eq_true, if_false, Prod.mk.injEq] at hR
    obtain ⟨rfl, rfl, rfl⟩ := hR
    clear hg hl
    go_enter Try.func31, Try.ntmps31
    go_wp2_with fail
    refine (i_IsValidProfile _ _ _ l _ (H.out.below (by go_grown)) (by omega)).mono ?_
    rintro e w1 ⟨rfl, hb1⟩
    rw [HG.out]
    obtain ⟨hc_w1, hf_w1⟩ := bcell hb1
    have hz_w1_0 : w.heap.size < w1.heap.size := by have := hb1.size; simp only [World.size_alloc] at this; omega
    have HB1 := hid (bstep (by go_grown) hb1 : Below w.heap.size w w1)
    go_wp2
    go_ret3
    exact ⟨rfl, HB1.out⟩
  · have HG := hid hg
    unfold peakR at hR
    rw [hg] at hR
    simp only [if_true, Prod.mk.injEq] at hR
    obtain ⟨rfl, rfl, rfl⟩ := hR
    have hL := (goodProf_iff.1 hg).1
    have hn24 : n = 24 := by omega
    subst hn24
    have hpl := pkTo_lt l 24 (by omega)
    have HL := hid hL
    clear hg hl hL
    go_enter Try.func31, Try.ntmps31
    go_wp2_with fail
    refine (i_IsValidProfile _ _ _ l _ (H.out.below (by go_grown)) (by omega)).mono ?_
    rintro e w1 ⟨rfl, hb1⟩
    rw [HG.out]
    obtain ⟨hc_w1, hf_w1⟩ := bcell hb1
    have hz_w1_0 : w.heap.size < w1.heap.size := by have := hb1.size; simp only [World.size_alloc] at this; omega
    have HB1 := hid (bstep (by go_grown) hb1 : Below w.heap.size w w1)
    go_wp2_with fail
    refine (f_Max _ _ _ l _ (H.out.below HB1.out) (by omega) (by omega)).mono ?_
    rintro e _ ⟨⟨r, rfl, r1, r2⟩, rfl⟩
    obtain rfl := pk_max HL.out r1 r2
    clear r1 r2
    go_wp2_with fail
    refine (f_Index _ _ _ (pkTo l 24) _ l _ (H.out.below HB1.out) (by omega) hpl rfl (fun j hj => by have := pkTo_first l 24 j hj; omega)).mono ?_
    rintro e _ ⟨rfl, rfl⟩
    go_wp2
    go_ret3
    exact ⟨rfl, HB1.out⟩

set_option maxHeartbeats 2000000 in
theorem s_PeakHour (a : Option Addr) (n c : Nat) (l : List Int) (w : World) (h : IntsAt w a n l) (hn : n ≤ 1048576) (x y : Int) (z : Bool) (hR : peakR l = (x, y, z)) :
    Calls Try.prog 38 #[.agg #[.slice a n c]] w fun e w' => e = .returned (.tuple #[.int .i64 x, .int .i64 y, .bool z]) ∧ Below w.heap.size w w' := by
  have hl := h.1
  have H := hid h
  clear h
  cases hg : goodProf l
  · have HG := hid hg
    unfold peakR at hR
    rw [hg] at hR
    simp only [Bool.false_eq_true, if_false, Prod.mk.injEq] at hR
    obtain ⟨rfl, rfl, rfl⟩ := hR
    clear hg hl
    go_enter Try.func38, Try.ntmps38
    go_wp2_with fail
    refine (s_l6Good _ _ _ l _ (H.out.below (by go_grown)) (by omega)).mono ?_
    rintro e w1 ⟨rfl, hb1⟩
    rw [HG.out]
    obtain ⟨hc_w1, hf_w1⟩ := bcell hb1
    have hz_w1_0 : w.heap.size < w1.heap.size := by have := hb1.size; simp only [World.size_alloc] at this; omega
    have HB1 := hid (bstep (by go_grown) hb1 : Below w.heap.size w w1)
    go_wp2
    go_ret3
    exact ⟨rfl, HB1.out⟩
  · have HG := hid hg
    unfold peakR at hR
    rw [hg] at hR
    simp only [if_true, Prod.mk.injEq] at hR
    obtain ⟨rfl, rfl, rfl⟩ := hR
    have hL := (goodProf_iff.1 hg).1
    have hn24 : n = 24 := by omega
    subst hn24
    have hpl := pkTo_lt l 24 (by omega)
    clear hg hl hL
    go_enter Try.func38, Try.ntmps38
    go_wp2_with fail
    refine (s_l6Good _ _ _ l _ (H.out.below (by go_grown)) (by omega)).mono ?_
    rintro e w1 ⟨rfl, hb1⟩
    rw [HG.out]
    obtain ⟨hc_w1, hf_w1⟩ := bcell hb1
    have hz_w1_0 : w.heap.size < w1.heap.size := by have := hb1.size; simp only [World.size_alloc] at this; omega
    have HB1 := hid (bstep (by go_grown) hb1 : Below w.heap.size w w1)
    have T1 := hid ((hb1.block w.heap.size (by simp)).trans (heap_alloc_new _ _))
    go_wp2_with fail
    refine (s_l6Peak _ _ _ l _ (H.out.below HB1.out) (by omega) (by omega)).mono ?_
    rintro e w2 ⟨rfl, hb2⟩
    obtain ⟨b, off, rfl, hbw, hcell⟩ := ((H.out.below HB1.out).below hb2).2 (pkTo l 24) hpl
    have T2 := hid ((hb2.block _ (Array.getElem?_eq_some_iff.1 T1.out).1).trans T1.out)
    have hz2 := (Array.getElem?_eq_some_iff.1 T2.out).1
    have m2 : w2.cell? ⟨w.heap.size, 0, none⟩ = some (.slice (some ⟨b, off, none⟩) 24 c) := by rw [cell_of_row w2 _ _ _ _ (0, 0) T2.out]; rfl
    have B2 := hid (bstep HB1.out hb2)
    have hc : l[pkTo l 24]?.getD 0 = el l (pkTo l 24) := rfl
    clear hb2
    generalize hp : pkTo l 24 = p at *
    go_wp2_with fail
    go_quiet (fail)
    go_wp2
    go_ret3
    subst hp
    exact ⟨rfl, below_drewN B2.out _⟩

/-- The first hour from which k hours take least, among 0 .. m - 1. -/
def qTo (l : List Int) (k : Nat) : Nat → Nat
  | 0 => 0
  | m + 1 => if hrs l m k < hrs l (qTo l k m) k then m else qTo l k m
theorem qTo_lt (l : List Int) (k : Nat) : ∀ m, 1 ≤ m → qTo l k m < m
  | 0, h => by omega
  | 1, _ => by unfold qTo; split <;> simp [qTo]
  | m + 2, _ => by
    have := qTo_lt l k (m + 1) (by omega)
    unfold qTo
    split <;> omega
theorem qTo_min (l : List Int) (k : Nat) : ∀ m j, j < m → hrs l (qTo l k m) k ≤ hrs l j k
  | 0, j, h => by omega
  | m + 1, j, h => by
    unfold qTo
    split
    · rename_i h1
      by_cases e : j = m
      · subst e; omega
      · have := qTo_min l k m j (by omega); omega
    · rename_i h1
      by_cases e : j = m
      · subst e; omega
      · exact qTo_min l k m j (by omega)
/-- What QuietestHours returns. -/
def quietR (l : List Int) (h : Int) : Int × Int × Bool := if (goodProf l && inR h 1 24) = true then ((qTo l h.toNat 24 : Nat), hrs l (qTo l h.toNat 24) h.toNat, true) else (0, 0, false)

set_option maxHeartbeats 4000000 in
theorem i_QuietestHours (a : Option Addr) (n c : Nat) (h : Int) (l : List Int) (w : World) (hA : IntsAt w a n l) (hn : n ≤ 1048576) (x y : Int) (z : Bool) (hR : quietR l h = (x, y, z)) :
    Calls Try.prog 35 #[.agg #[.slice a n c], .int .i64 h] w fun e w' => e = .returned (.tuple #[.int .i64 x, .int .i64 y, .bool z]) ∧ Below w.heap.size w w' := by
  have hl := hA.1
  have H := hid hA
  clear hA
  cases hg : goodProf l
  · have HG := hid hg
    unfold quietR at hR
    rw [hg] at hR
    simp only [Bool.false_and, Bool.false_eq_true, if_false, Prod.mk.injEq] at hR
    obtain ⟨rfl, rfl, rfl⟩ := hR
    clear hg hl
    go_enter Try.func35, Try.ntmps35
    go_wp2_with fail
    refine (i_IsValidProfile _ _ _ l _ (H.out.below (by go_grown)) (by omega)).mono ?_
    rintro e w1 ⟨rfl, hb1⟩
    rw [HG.out]
    obtain ⟨hc_w1, hf_w1⟩ := bcell hb1
    have hz_w1_0 : w.heap.size < w1.heap.size := by have := hb1.size; simp only [World.size_alloc] at this; omega
    have HB1 := hid (bstep (by go_grown) hb1 : Below w.heap.size w w1)
    go_wp2
    go_ret3
    exact ⟨rfl, HB1.out⟩
  · cases h2 : inR h 1 24
    · have HG := hid hg
      have H2 := hid h2
      unfold quietR at hR
      rw [hg, h2] at hR
      simp only [Bool.and_false, Bool.false_eq_true, if_false, Prod.mk.injEq] at hR
      obtain ⟨rfl, rfl, rfl⟩ := hR
      clear hg h2 hl
      go_enter Try.func35, Try.ntmps35
      go_wp2_with fail
      refine (i_IsValidProfile _ _ _ l _ (H.out.below (by go_grown)) (by omega)).mono ?_
      rintro e w1 ⟨rfl, hb1⟩
      rw [HG.out]
      obtain ⟨hc_w1, hf_w1⟩ := bcell hb1
      have hz_w1_0 : w.heap.size < w1.heap.size := by have := hb1.size; simp only [World.size_alloc] at this; omega
      have HB1 := hid (bstep (by go_grown) hb1 : Below w.heap.size w w1)
      go_wp2_with fail
      refine (i_inside _ _ _ _).mono ?_
      rintro e _ ⟨rfl, rfl⟩
      rw [H2.out]
      go_wp2
      go_ret3
      exact ⟨rfl, HB1.out⟩
    · have HG := hid hg
      have H2 := hid h2
      have h24 := inR_iff.1 h2
      obtain ⟨k, rfl⟩ : ∃ k : Nat, h = (k : Int) := ⟨h.toNat, by omega⟩
      have hk24 : k ≤ 24 := by omega
      unfold quietR at hR
      rw [hg, h2] at hR
      simp only [Bool.and_self, if_true, Prod.mk.injEq, Int.toNat_natCast] at hR
      obtain ⟨rfl, rfl, rfl⟩ := hR
      have hL := (goodProf_iff.1 hg).1
      have hn24 : n = 24 := by omega
      subst hn24
      clear hg h2 hl hL h24 hn
      go_enter Try.func35, Try.ntmps35
      go_wp2_with fail
      refine (i_IsValidProfile _ _ _ l _ (H.out.below (by go_grown)) (by omega)).mono ?_
      rintro e w1 ⟨rfl, hb1⟩
      rw [HG.out]
      obtain ⟨hc_w1, hf_w1⟩ := bcell hb1
      have hz_w1_0 : w.heap.size < w1.heap.size := by have := hb1.size; simp only [World.size_alloc] at this; omega
      have HB1 := hid (bstep (by go_grown) hb1 : Below w.heap.size w w1)
      have T1 := hid ((hb1.block w.heap.size (by simp)).trans (heap_alloc_new _ _))
      go_wp2_with fail
      refine (i_inside _ _ _ _).mono ?_
      rintro e _ ⟨rfl, rfl⟩
      rw [H2.out]
      clear hb1 hc_w1 hf_w1
      go_wp2
      go_loopg [7, 17] (24 - 0) (fun gm s i wr => ∃ m : Nat, 0 ≤ m ∧ m ≤ 24 ∧ gm = 24 - m ∧ i = .int .i64 m ∧ s = .int .i64 ((qTo l k m : Nat) : Int) ∧ Hid (Below w1.heap.size w1 wr))
      case atStart => exact ⟨0, by omega, by omega, rfl, rfl, by simp [qTo], hid (Below.refl _ _)⟩
      case round =>
        obtain ⟨m, hm0, hm, rfl, rfl, rfl, hB⟩ := hrel
        have hz1 := (Array.getElem?_eq_some_iff.1 T1.out).1
        have TR := hid ((hB.out.block _ hz1).trans T1.out)
        have mr : wr.cell? ⟨w.heap.size, 0, none⟩ = some (.slice a 24 c) := by rw [cell_of_row wr _ _ _ _ (0, 0) TR.out]; rfl
        have hzr := (Array.getElem?_eq_some_iff.1 TR.out).1
        by_cases hlt : m < 24
        · have hq24 : qTo l k m ≤ 23 := by
            by_cases e : m = 0
            · subst e; simp [qTo]
            · have := qTo_lt l k m (by omega); omega
          have HNX := hid (show qTo l k (m + 1) = if hrs l m k < hrs l (qTo l k m) k then m else qTo l k m from rfl)
          obtain ⟨b, hb⟩ : ∃ b, qTo l k m = b := ⟨_, rfl⟩
          rw [hb] at hq24 HNX ⊢
          have X := hid (show Below w1.heap.size w1 wr.drew ∧ wr.drew.cell? ⟨w.heap.size, 0, none⟩ = some (.slice a 24 c) from ⟨hB.out.drew, mr⟩)
          have KEEP : Hid (∀ wy wz : World, (Below w1.heap.size w1 wy ∧ wy.cell? ⟨w.heap.size, 0, none⟩ = some (.slice a 24 c)) → Below wy.heap.size wy wz → (Below w1.heap.size w1 wz ∧ wz.cell? ⟨w.heap.size, 0, none⟩ = some (.slice a 24 c))) :=
            hid (fun wy wz ⟨h0, z0⟩ hb => ⟨bstep h0 hb, (hb.cell (World.block_lt_of_cell? wy _ z0)).trans z0⟩)
          have HM := hid (fun (W : World) (hW : Below w1.heap.size w1 W) => i_sumFrom a 24 c m k l W ((H.out.below HB1.out).below hW) HG.out (by omega) hk24)
          have HQ := hid (fun (W : World) (hW : Below w1.heap.size w1 W) => i_sumFrom a 24 c b k l W ((H.out.below HB1.out).below hW) HG.out (by omega) hk24)
          have hwm : IntKind.i64.wrap ((m : Int) + 1) = ((m + 1 : Nat) : Int) := by rw [IntWalk.i64_in _ (by omega)]; omega
          clear hb X KEEP
          by_cases hc : hrs l m k < hrs l b k
          · rw [if_pos hc] at HNX
            go_upto_region 7 with fail
            refine wp_region_noPanic ?_
            refine wp_region_held_drew (S := (fun w' => w'.cell? ⟨w.heap.size, 0, none⟩ = some (.slice a 24 c))) (by kernel_rfl) (by exact mr) (fun hHeld => ?_)
            refine wpAnyH_take' (i := 0) (v := ?_) rfl (by kernel_rfl) (by kernel_rfl) (by kernel_rfl) (fun _ _ _ h => h) (Or.inl ⟨by rfl, ?_⟩) (by assumption) ?_
            rotate_left
            · (intro w' hSw; (try dsimp only at hSw); go_simp; all_goals with_reducible rfl)
            try simp only [Act.put, List.setIfInBounds_toArray, List.set_cons_zero, List.set_cons_succ]
            refine wpAnyH_take' (i := 1) (v := ?_) rfl (by kernel_rfl) (by kernel_rfl) (by kernel_rfl) (fun _ _ _ h => h) (Or.inl ⟨by rfl, ?_⟩) (by assumption) ?_
            rotate_left
            · (intro w' hSw; (try dsimp only at hSw); go_simp; all_goals with_reducible rfl)
            try simp only [Act.put, List.setIfInBounds_toArray, List.set_cons_zero, List.set_cons_succ]
            refine wpAnyH_take' (i := 2) (v := ?_) rfl (by kernel_rfl) (by kernel_rfl) (by kernel_rfl) (fun _ _ _ h => h) (Or.inl ⟨by rfl, ?_⟩) (by assumption) ?_
            rotate_left
            · (intro w' hSw; (try dsimp only at hSw); go_simp; all_goals with_reducible rfl)
            try simp only [Act.put, List.setIfInBounds_toArray, List.set_cons_zero, List.set_cons_succ]
            refine wpAnyH_take' (i := 4) (v := ?_) rfl (by kernel_rfl) (by kernel_rfl) (by kernel_rfl) (fun _ _ _ h => h) (Or.inl ⟨by rfl, ?_⟩) (by assumption) ?_
            rotate_left
            · (intro w' hSw; (try dsimp only at hSw); go_simp; all_goals with_reducible rfl)
            try simp only [Act.put, List.setIfInBounds_toArray, List.set_cons_zero, List.set_cons_succ]
            refine wpAnyH_take' (i := 5) (v := ?_) rfl (by kernel_rfl) (by kernel_rfl) (by kernel_rfl) (fun _ _ _ h => h) (Or.inl ⟨by rfl, ?_⟩) (by assumption) ?_
            rotate_left
            · (intro w' hSw; (try dsimp only at hSw); go_simp; all_goals with_reducible rfl)
            try simp only [Act.put, List.setIfInBounds_toArray, List.set_cons_zero, List.set_cons_succ]
            refine wpAnyH_take' (i := 6) (v := ?_) rfl (by kernel_rfl) (by kernel_rfl) (by kernel_rfl) (fun _ _ _ h => h) (Or.inl ⟨by rfl, ?_⟩) (by assumption) ?_
            rotate_left
            · (intro w' hSw; (try dsimp only at hSw); go_simp; all_goals with_reducible rfl)
            try simp only [Act.put, List.setIfInBounds_toArray, List.set_cons_zero, List.set_cons_succ]
            refine wpAnyH_ready (rs := [3]) (by kernel_rfl) (by simp) ?_
            refine allReadyH_cons' rfl (fun Kn hKn => ?_) AllReadyH.nil
            go_simp
            go_at_call 77
            refine (HM.out _ (bstep hB.out (by go_grown))).mono ?_
            rintro e w5 ⟨rfl, hb5⟩
            have B5 := hid (bstep hB.out (bstep (by go_grown) hb5) : Below w1.heap.size w1 w5)
            have m5 : w5.cell? ⟨w.heap.size, 0, none⟩ = some (.slice a 24 c) := by rw [cell_of_row w5 _ _ _ _ (0, 0) ((B5.out.block _ hz1).trans T1.out)]; rfl
            refine hKn.out _ _ m5 (fun hHeldN => ?_)
            clear hKn Kn hHeld
            have hHeld := hHeldN
            clear hHeldN
            try simp only [Act.put, List.setIfInBounds_toArray, List.set_cons_zero, List.set_cons_succ]
            clear hb5
            refine wpAnyH_ready (rs := [7]) (by kernel_rfl) (by simp) ?_
            refine allReadyH_cons' rfl (fun Kn hKn => ?_) AllReadyH.nil
            go_simp
            go_at_call 77
            refine (HQ.out _ B5.out).mono ?_
            rintro e w6 ⟨rfl, hb6⟩
            have B6 := hid (bstep B5.out hb6)
            have m6 : w6.cell? ⟨w.heap.size, 0, none⟩ = some (.slice a 24 c) := by rw [cell_of_row w6 _ _ _ _ (0, 0) ((B6.out.block _ hz1).trans T1.out)]; rfl
            refine hKn.out _ _ m6 (fun hHeldN => ?_)
            clear hKn Kn hHeld
            have hHeld := hHeldN
            clear hHeldN
            try simp only [Act.put, List.setIfInBounds_toArray, List.set_cons_zero, List.set_cons_succ]
            refine wpAnyH_take' (i := 8) (v := ?_) rfl (by kernel_rfl) (by kernel_rfl) (by kernel_rfl) (fun _ _ _ h => h) (Or.inl ⟨by rfl, ?_⟩) (by assumption) ?_
            rotate_left
            · (intro w' hSw; (try dsimp only at hSw); go_simp; all_goals with_reducible rfl)
            try simp only [Act.put, List.setIfInBounds_toArray, List.set_cons_zero, List.set_cons_succ]
            refine wpAnyH_done (by kernel_rfl) ?_ _
            refine NoPanic.normal ?_
            clear hHeld
            clear m5 m6 hb6
            go_wp2
            go_roundg (24 - (m + 1))
            case rel => exact ⟨m + 1, by omega, by omega, rfl, rfl, by rw [HNX.out], B6⟩
            case measure => omega
          · rw [if_neg hc] at HNX
            go_upto_region 7 with fail
            refine wp_region_noPanic ?_
            refine wp_region_held_drew (S := (fun w' => w'.cell? ⟨w.heap.size, 0, none⟩ = some (.slice a 24 c))) (by kernel_rfl) (by exact mr) (fun hHeld => ?_)
            refine wpAnyH_take' (i := 0) (v := ?_) rfl (by kernel_rfl) (by kernel_rfl) (by kernel_rfl) (fun _ _ _ h => h) (Or.inl ⟨by rfl, ?_⟩) (by assumption) ?_
            rotate_left
            · (intro w' hSw; (try dsimp only at hSw); go_simp; all_goals with_reducible rfl)
            try simp only [Act.put, List.setIfInBounds_toArray, List.set_cons_zero, List.set_cons_succ]
            refine wpAnyH_take' (i := 1) (v := ?_) rfl (by kernel_rfl) (by kernel_rfl) (by kernel_rfl) (fun _ _ _ h => h) (Or.inl ⟨by rfl, ?_⟩) (by assumption) ?_
            rotate_left
            · (intro w' hSw; (try dsimp only at hSw); go_simp; all_goals with_reducible rfl)
            try simp only [Act.put, List.setIfInBounds_toArray, List.set_cons_zero, List.set_cons_succ]
            refine wpAnyH_take' (i := 2) (v := ?_) rfl (by kernel_rfl) (by kernel_rfl) (by kernel_rfl) (fun _ _ _ h => h) (Or.inl ⟨by rfl, ?_⟩) (by assumption) ?_
            rotate_left
            · (intro w' hSw; (try dsimp only at hSw); go_simp; all_goals with_reducible rfl)
            try simp only [Act.put, List.setIfInBounds_toArray, List.set_cons_zero, List.set_cons_succ]
            refine wpAnyH_take' (i := 4) (v := ?_) rfl (by kernel_rfl) (by kernel_rfl) (by kernel_rfl) (fun _ _ _ h => h) (Or.inl ⟨by rfl, ?_⟩) (by assumption) ?_
            rotate_left
            · (intro w' hSw; (try dsimp only at hSw); go_simp; all_goals with_reducible rfl)
            try simp only [Act.put, List.setIfInBounds_toArray, List.set_cons_zero, List.set_cons_succ]
            refine wpAnyH_take' (i := 5) (v := ?_) rfl (by kernel_rfl) (by kernel_rfl) (by kernel_rfl) (fun _ _ _ h => h) (Or.inl ⟨by rfl, ?_⟩) (by assumption) ?_
            rotate_left
            · (intro w' hSw; (try dsimp only at hSw); go_simp; all_goals with_reducible rfl)
            try simp only [Act.put, List.setIfInBounds_toArray, List.set_cons_zero, List.set_cons_succ]
            refine wpAnyH_take' (i := 6) (v := ?_) rfl (by kernel_rfl) (by kernel_rfl) (by kernel_rfl) (fun _ _ _ h => h) (Or.inl ⟨by rfl, ?_⟩) (by assumption) ?_
            rotate_left
            · (intro w' hSw; (try dsimp only at hSw); go_simp; all_goals with_reducible rfl)
            try simp only [Act.put, List.setIfInBounds_toArray, List.set_cons_zero, List.set_cons_succ]
            refine wpAnyH_ready (rs := [3]) (by kernel_rfl) (by simp) ?_
            refine allReadyH_cons' rfl (fun Kn hKn => ?_) AllReadyH.nil
            go_simp
            go_at_call 77
            refine (HM.out _ (bstep hB.out (by go_grown))).mono ?_
            rintro e w5 ⟨rfl, hb5⟩
            have B5 := hid (bstep hB.out (bstep (by go_grown) hb5) : Below w1.heap.size w1 w5)
            have m5 : w5.cell? ⟨w.heap.size, 0, none⟩ = some (.slice a 24 c) := by rw [cell_of_row w5 _ _ _ _ (0, 0) ((B5.out.block _ hz1).trans T1.out)]; rfl
            refine hKn.out _ _ m5 (fun hHeldN => ?_)
            clear hKn Kn hHeld
            have hHeld := hHeldN
            clear hHeldN
            try simp only [Act.put, List.setIfInBounds_toArray, List.set_cons_zero, List.set_cons_succ]
            clear hb5
            refine wpAnyH_ready (rs := [7]) (by kernel_rfl) (by simp) ?_
            refine allReadyH_cons' rfl (fun Kn hKn => ?_) AllReadyH.nil
            go_simp
            go_at_call 77
            refine (HQ.out _ B5.out).mono ?_
            rintro e w6 ⟨rfl, hb6⟩
            have B6 := hid (bstep B5.out hb6)
            have m6 : w6.cell? ⟨w.heap.size, 0, none⟩ = some (.slice a 24 c) := by rw [cell_of_row w6 _ _ _ _ (0, 0) ((B6.out.block _ hz1).trans T1.out)]; rfl
            refine hKn.out _ _ m6 (fun hHeldN => ?_)
            clear hKn Kn hHeld
            have hHeld := hHeldN
            clear hHeldN
            try simp only [Act.put, List.setIfInBounds_toArray, List.set_cons_zero, List.set_cons_succ]
            refine wpAnyH_take' (i := 8) (v := ?_) rfl (by kernel_rfl) (by kernel_rfl) (by kernel_rfl) (fun _ _ _ h => h) (Or.inl ⟨by rfl, ?_⟩) (by assumption) ?_
            rotate_left
            · (intro w' hSw; (try dsimp only at hSw); go_simp; all_goals with_reducible rfl)
            try simp only [Act.put, List.setIfInBounds_toArray, List.set_cons_zero, List.set_cons_succ]
            refine wpAnyH_done (by kernel_rfl) ?_ _
            refine NoPanic.normal ?_
            clear hHeld
            clear m5 m6 hb6
            go_wp2
            go_roundg (24 - (m + 1))
            case rel => exact ⟨m + 1, by omega, by omega, rfl, rfl, by rw [HNX.out], B6⟩
            case measure => omega
        · obtain rfl : m = 24 := by omega
          have hq24 := qTo_lt l k 24 (by omega)
          go_wp2_with fail
          refine (i_sumFrom a 24 c (qTo l k 24) k l _ ((H.out.below HB1.out).below hB.out) HG.out (by omega) hk24).mono ?_
          rintro e w5 ⟨rfl, hb5⟩
          go_wp2
          go_ret3
          exact ⟨rfl, bstep HB1.out (bstep hB.out hb5)⟩
set_option maxHeartbeats 4000000 in
theorem s_QuietestHours (a : Option Addr) (n c : Nat) (h : Int) (l : List Int) (w : World) (hA : IntsAt w a n l) (hn : n ≤ 1048576) (x y : Int) (z : Bool) (hR : quietR l h = (x, y, z)) :
    Calls Try.prog 36 #[.agg #[.slice a n c], .int .i64 h] w fun e w' => e = .returned (.tuple #[.int .i64 x, .int .i64 y, .bool z]) ∧ Below w.heap.size w w' := by
  have hl := hA.1
  have H := hid hA
  clear hA
  cases hg : goodProf l
  · have HG := hid hg
    unfold quietR at hR
    rw [hg] at hR
    simp only [Bool.false_and, Bool.false_eq_true, if_false, Prod.mk.injEq] at hR
    obtain ⟨rfl, rfl, rfl⟩ := hR
    clear hg hl
    go_enter Try.func36, Try.ntmps36
    go_wp2_with fail
    refine (s_l6Good _ _ _ l _ (H.out.below (by go_grown)) (by omega)).mono ?_
    rintro e w1 ⟨rfl, hb1⟩
    rw [HG.out]
    obtain ⟨hc_w1, hf_w1⟩ := bcell hb1
    have hz_w1_0 : w.heap.size < w1.heap.size := by have := hb1.size; simp only [World.size_alloc] at this; omega
    have HB1 := hid (bstep (by go_grown) hb1 : Below w.heap.size w w1)
    go_wp2
    go_ret3
    exact ⟨rfl, HB1.out⟩
  · cases h2 : inR h 1 24
    · have HG := hid hg
      have H2 := hid h2
      unfold quietR at hR
      rw [hg, h2] at hR
      simp only [Bool.and_false, Bool.false_eq_true, if_false, Prod.mk.injEq] at hR
      obtain ⟨rfl, rfl, rfl⟩ := hR
      clear hg h2 hl
      go_enter Try.func36, Try.ntmps36
      go_wp2_with fail
      refine (s_l6Good _ _ _ l _ (H.out.below (by go_grown)) (by omega)).mono ?_
      rintro e w1 ⟨rfl, hb1⟩
      rw [HG.out]
      obtain ⟨hc_w1, hf_w1⟩ := bcell hb1
      have hz_w1_0 : w.heap.size < w1.heap.size := by have := hb1.size; simp only [World.size_alloc] at this; omega
      have HB1 := hid (bstep (by go_grown) hb1 : Below w.heap.size w w1)
      go_wp2_with fail
      refine (s_l1In _ _ _ _).mono ?_
      rintro e _ ⟨rfl, rfl⟩
      rw [H2.out]
      go_wp2
      go_ret3
      exact ⟨rfl, HB1.out⟩
    · have HG := hid hg
      have H2 := hid h2
      have h24 := inR_iff.1 h2
      obtain ⟨k, rfl⟩ : ∃ k : Nat, h = (k : Int) := ⟨h.toNat, by omega⟩
      have hk24 : k ≤ 24 := by omega
      unfold quietR at hR
      rw [hg, h2] at hR
      simp only [Bool.and_self, if_true, Prod.mk.injEq, Int.toNat_natCast] at hR
      obtain ⟨rfl, rfl, rfl⟩ := hR
      have hL := (goodProf_iff.1 hg).1
      have hn24 : n = 24 := by omega
      subst hn24
      clear hg h2 hl hL h24 hn
      go_enter Try.func36, Try.ntmps36
      go_wp2_with fail
      refine (s_l6Good _ _ _ l _ (H.out.below (by go_grown)) (by omega)).mono ?_
      rintro e w1 ⟨rfl, hb1⟩
      rw [HG.out]
      obtain ⟨hc_w1, hf_w1⟩ := bcell hb1
      have hz_w1_0 : w.heap.size < w1.heap.size := by have := hb1.size; simp only [World.size_alloc] at this; omega
      have HB1 := hid (bstep (by go_grown) hb1 : Below w.heap.size w w1)
      have T1 := hid ((hb1.block w.heap.size (by simp)).trans (heap_alloc_new _ _))
      go_wp2_with fail
      refine (s_l1In _ _ _ _).mono ?_
      rintro e _ ⟨rfl, rfl⟩
      rw [H2.out]
      clear hb1 hc_w1 hf_w1
      go_wp2
      go_loopg [7, 8] (24 - 1) (fun gm s i wr => ∃ m : Nat, 1 ≤ m ∧ m ≤ 24 ∧ gm = 24 - m ∧ i = .int .i64 m ∧ s = .int .i64 ((qTo l k m : Nat) : Int) ∧ Hid (Below w1.heap.size w1 wr))
      case atStart => exact ⟨1, by omega, by omega, rfl, rfl, by simp [qTo], hid (Below.refl _ _)⟩
      case round =>
        obtain ⟨m, hm0, hm, rfl, rfl, rfl, hB⟩ := hrel
        have hz1 := (Array.getElem?_eq_some_iff.1 T1.out).1
        have TR := hid ((hB.out.block _ hz1).trans T1.out)
        have mr : wr.cell? ⟨w.heap.size, 0, none⟩ = some (.slice a 24 c) := by rw [cell_of_row wr _ _ _ _ (0, 0) TR.out]; rfl
        have hzr := (Array.getElem?_eq_some_iff.1 TR.out).1
        by_cases hlt : m < 24
        · have hq24 : qTo l k m ≤ 23 := by
            by_cases e : m = 0
            · subst e; simp [qTo]
            · have := qTo_lt l k m (by omega); omega
          have HNX := hid (show qTo l k (m + 1) = if hrs l m k < hrs l (qTo l k m) k then m else qTo l k m from rfl)
          obtain ⟨b, hb⟩ : ∃ b, qTo l k m = b := ⟨_, rfl⟩
          rw [hb] at hq24 HNX ⊢
          have X := hid (show Below w1.heap.size w1 wr.drew ∧ wr.drew.cell? ⟨w.heap.size, 0, none⟩ = some (.slice a 24 c) from ⟨hB.out.drew, mr⟩)
          have KEEP : Hid (∀ wy wz : World, (Below w1.heap.size w1 wy ∧ wy.cell? ⟨w.heap.size, 0, none⟩ = some (.slice a 24 c)) → Below wy.heap.size wy wz → (Below w1.heap.size w1 wz ∧ wz.cell? ⟨w.heap.size, 0, none⟩ = some (.slice a 24 c))) :=
            hid (fun wy wz ⟨h0, z0⟩ hb => ⟨bstep h0 hb, (hb.cell (World.block_lt_of_cell? wy _ z0)).trans z0⟩)
          have HM := hid (fun (W : World) (hW : Below w1.heap.size w1 W) => s_l6Sum a 24 c m k l W ((H.out.below HB1.out).below hW) HG.out (by omega) hk24)
          have HQ := hid (fun (W : World) (hW : Below w1.heap.size w1 W) => s_l6Sum a 24 c b k l W ((H.out.below HB1.out).below hW) HG.out (by omega) hk24)
          have hwm : IntKind.i64.wrap ((m : Int) + 1) = ((m + 1 : Nat) : Int) := by rw [IntWalk.i64_in _ (by omega)]; omega
          clear hb X KEEP
          by_cases hc : hrs l m k < hrs l b k
          · rw [if_pos hc] at HNX
            go_upto_region 7 with fail
            refine wp_region_noPanic ?_
            refine wp_region_held_drew (S := (fun w' => w'.cell? ⟨w.heap.size, 0, none⟩ = some (.slice a 24 c))) (by kernel_rfl) (by exact mr) (fun hHeld => ?_)
            refine wpAnyH_take' (i := 0) (v := ?_) rfl (by kernel_rfl) (by kernel_rfl) (by kernel_rfl) (fun _ _ _ h => h) (Or.inl ⟨by rfl, ?_⟩) (by assumption) ?_
            rotate_left
            · (intro w' hSw; (try dsimp only at hSw); go_simp; all_goals with_reducible rfl)
            try simp only [Act.put, List.setIfInBounds_toArray, List.set_cons_zero, List.set_cons_succ]
            refine wpAnyH_take' (i := 1) (v := ?_) rfl (by kernel_rfl) (by kernel_rfl) (by kernel_rfl) (fun _ _ _ h => h) (Or.inl ⟨by rfl, ?_⟩) (by assumption) ?_
            rotate_left
            · (intro w' hSw; (try dsimp only at hSw); go_simp; all_goals with_reducible rfl)
            try simp only [Act.put, List.setIfInBounds_toArray, List.set_cons_zero, List.set_cons_succ]
            refine wpAnyH_take' (i := 2) (v := ?_) rfl (by kernel_rfl) (by kernel_rfl) (by kernel_rfl) (fun _ _ _ h => h) (Or.inl ⟨by rfl, ?_⟩) (by assumption) ?_
            rotate_left
            · (intro w' hSw; (try dsimp only at hSw); go_simp; all_goals with_reducible rfl)
            try simp only [Act.put, List.setIfInBounds_toArray, List.set_cons_zero, List.set_cons_succ]
            refine wpAnyH_take' (i := 4) (v := ?_) rfl (by kernel_rfl) (by kernel_rfl) (by kernel_rfl) (fun _ _ _ h => h) (Or.inl ⟨by rfl, ?_⟩) (by assumption) ?_
            rotate_left
            · (intro w' hSw; (try dsimp only at hSw); go_simp; all_goals with_reducible rfl)
            try simp only [Act.put, List.setIfInBounds_toArray, List.set_cons_zero, List.set_cons_succ]
            refine wpAnyH_take' (i := 5) (v := ?_) rfl (by kernel_rfl) (by kernel_rfl) (by kernel_rfl) (fun _ _ _ h => h) (Or.inl ⟨by rfl, ?_⟩) (by assumption) ?_
            rotate_left
            · (intro w' hSw; (try dsimp only at hSw); go_simp; all_goals with_reducible rfl)
            try simp only [Act.put, List.setIfInBounds_toArray, List.set_cons_zero, List.set_cons_succ]
            refine wpAnyH_take' (i := 6) (v := ?_) rfl (by kernel_rfl) (by kernel_rfl) (by kernel_rfl) (fun _ _ _ h => h) (Or.inl ⟨by rfl, ?_⟩) (by assumption) ?_
            rotate_left
            · (intro w' hSw; (try dsimp only at hSw); go_simp; all_goals with_reducible rfl)
            try simp only [Act.put, List.setIfInBounds_toArray, List.set_cons_zero, List.set_cons_succ]
            refine wpAnyH_ready (rs := [3]) (by kernel_rfl) (by simp) ?_
            refine allReadyH_cons' rfl (fun Kn hKn => ?_) AllReadyH.nil
            go_simp
            go_at_call 75
            refine (HM.out _ (bstep hB.out (by go_grown))).mono ?_
            rintro e w5 ⟨rfl, hb5⟩
            have B5 := hid (bstep hB.out (bstep (by go_grown) hb5) : Below w1.heap.size w1 w5)
            have m5 : w5.cell? ⟨w.heap.size, 0, none⟩ = some (.slice a 24 c) := by rw [cell_of_row w5 _ _ _ _ (0, 0) ((B5.out.block _ hz1).trans T1.out)]; rfl
            refine hKn.out _ _ m5 (fun hHeldN => ?_)
            clear hKn Kn hHeld
            have hHeld := hHeldN
            clear hHeldN
            try simp only [Act.put, List.setIfInBounds_toArray, List.set_cons_zero, List.set_cons_succ]
            clear hb5
            refine wpAnyH_ready (rs := [7]) (by kernel_rfl) (by simp) ?_
            refine allReadyH_cons' rfl (fun Kn hKn => ?_) AllReadyH.nil
            go_simp
            go_at_call 75
            refine (HQ.out _ B5.out).mono ?_
            rintro e w6 ⟨rfl, hb6⟩
            have B6 := hid (bstep B5.out hb6)
            have m6 : w6.cell? ⟨w.heap.size, 0, none⟩ = some (.slice a 24 c) := by rw [cell_of_row w6 _ _ _ _ (0, 0) ((B6.out.block _ hz1).trans T1.out)]; rfl
            refine hKn.out _ _ m6 (fun hHeldN => ?_)
            clear hKn Kn hHeld
            have hHeld := hHeldN
            clear hHeldN
            try simp only [Act.put, List.setIfInBounds_toArray, List.set_cons_zero, List.set_cons_succ]
            refine wpAnyH_take' (i := 8) (v := ?_) rfl (by kernel_rfl) (by kernel_rfl) (by kernel_rfl) (fun _ _ _ h => h) (Or.inl ⟨by rfl, ?_⟩) (by assumption) ?_
            rotate_left
            · (intro w' hSw; (try dsimp only at hSw); go_simp; all_goals with_reducible rfl)
            try simp only [Act.put, List.setIfInBounds_toArray, List.set_cons_zero, List.set_cons_succ]
            refine wpAnyH_done (by kernel_rfl) ?_ _
            refine NoPanic.normal ?_
            clear hHeld
            clear m5 m6 hb6
            go_wp2
            go_roundg (24 - (m + 1))
            case rel => exact ⟨m + 1, by omega, by omega, rfl, rfl, by rw [HNX.out], B6⟩
            case measure => omega
          · rw [if_neg hc] at HNX
            go_upto_region 7 with fail
            refine wp_region_noPanic ?_
            refine wp_region_held_drew (S := (fun w' => w'.cell? ⟨w.heap.size, 0, none⟩ = some (.slice a 24 c))) (by kernel_rfl) (by exact mr) (fun hHeld => ?_)
            refine wpAnyH_take' (i := 0) (v := ?_) rfl (by kernel_rfl) (by kernel_rfl) (by kernel_rfl) (fun _ _ _ h => h) (Or.inl ⟨by rfl, ?_⟩) (by assumption) ?_
            rotate_left
            · (intro w' hSw; (try dsimp only at hSw); go_simp; all_goals with_reducible rfl)
            try simp only [Act.put, List.setIfInBounds_toArray, List.set_cons_zero, List.set_cons_succ]
            refine wpAnyH_take' (i := 1) (v := ?_) rfl (by kernel_rfl) (by kernel_rfl) (by kernel_rfl) (fun _ _ _ h => h) (Or.inl ⟨by rfl, ?_⟩) (by assumption) ?_
            rotate_left
            · (intro w' hSw; (try dsimp only at hSw); go_simp; all_goals with_reducible rfl)
            try simp only [Act.put, List.setIfInBounds_toArray, List.set_cons_zero, List.set_cons_succ]
            refine wpAnyH_take' (i := 2) (v := ?_) rfl (by kernel_rfl) (by kernel_rfl) (by kernel_rfl) (fun _ _ _ h => h) (Or.inl ⟨by rfl, ?_⟩) (by assumption) ?_
            rotate_left
            · (intro w' hSw; (try dsimp only at hSw); go_simp; all_goals with_reducible rfl)
            try simp only [Act.put, List.setIfInBounds_toArray, List.set_cons_zero, List.set_cons_succ]
            refine wpAnyH_take' (i := 4) (v := ?_) rfl (by kernel_rfl) (by kernel_rfl) (by kernel_rfl) (fun _ _ _ h => h) (Or.inl ⟨by rfl, ?_⟩) (by assumption) ?_
            rotate_left
            · (intro w' hSw; (try dsimp only at hSw); go_simp; all_goals with_reducible rfl)
            try simp only [Act.put, List.setIfInBounds_toArray, List.set_cons_zero, List.set_cons_succ]
            refine wpAnyH_take' (i := 5) (v := ?_) rfl (by kernel_rfl) (by kernel_rfl) (by kernel_rfl) (fun _ _ _ h => h) (Or.inl ⟨by rfl, ?_⟩) (by assumption) ?_
            rotate_left
            · (intro w' hSw; (try dsimp only at hSw); go_simp; all_goals with_reducible rfl)
            try simp only [Act.put, List.setIfInBounds_toArray, List.set_cons_zero, List.set_cons_succ]
            refine wpAnyH_take' (i := 6) (v := ?_) rfl (by kernel_rfl) (by kernel_rfl) (by kernel_rfl) (fun _ _ _ h => h) (Or.inl ⟨by rfl, ?_⟩) (by assumption) ?_
            rotate_left
            · (intro w' hSw; (try dsimp only at hSw); go_simp; all_goals with_reducible rfl)
            try simp only [Act.put, List.setIfInBounds_toArray, List.set_cons_zero, List.set_cons_succ]
            refine wpAnyH_ready (rs := [3]) (by kernel_rfl) (by simp) ?_
            refine allReadyH_cons' rfl (fun Kn hKn => ?_) AllReadyH.nil
            go_simp
            go_at_call 75
            refine (HM.out _ (bstep hB.out (by go_grown))).mono ?_
            rintro e w5 ⟨rfl, hb5⟩
            have B5 := hid (bstep hB.out (bstep (by go_grown) hb5) : Below w1.heap.size w1 w5)
            have m5 : w5.cell? ⟨w.heap.size, 0, none⟩ = some (.slice a 24 c) := by rw [cell_of_row w5 _ _ _ _ (0, 0) ((B5.out.block _ hz1).trans T1.out)]; rfl
            refine hKn.out _ _ m5 (fun hHeldN => ?_)
            clear hKn Kn hHeld
            have hHeld := hHeldN
            clear hHeldN
            try simp only [Act.put, List.setIfInBounds_toArray, List.set_cons_zero, List.set_cons_succ]
            clear hb5
            refine wpAnyH_ready (rs := [7]) (by kernel_rfl) (by simp) ?_
            refine allReadyH_cons' rfl (fun Kn hKn => ?_) AllReadyH.nil
            go_simp
            go_at_call 75
            refine (HQ.out _ B5.out).mono ?_
            rintro e w6 ⟨rfl, hb6⟩
            have B6 := hid (bstep B5.out hb6)
            have m6 : w6.cell? ⟨w.heap.size, 0, none⟩ = some (.slice a 24 c) := by rw [cell_of_row w6 _ _ _ _ (0, 0) ((B6.out.block _ hz1).trans T1.out)]; rfl
            refine hKn.out _ _ m6 (fun hHeldN => ?_)
            clear hKn Kn hHeld
            have hHeld := hHeldN
            clear hHeldN
            try simp only [Act.put, List.setIfInBounds_toArray, List.set_cons_zero, List.set_cons_succ]
            refine wpAnyH_take' (i := 8) (v := ?_) rfl (by kernel_rfl) (by kernel_rfl) (by kernel_rfl) (fun _ _ _ h => h) (Or.inl ⟨by rfl, ?_⟩) (by assumption) ?_
            rotate_left
            · (intro w' hSw; (try dsimp only at hSw); go_simp; all_goals with_reducible rfl)
            try simp only [Act.put, List.setIfInBounds_toArray, List.set_cons_zero, List.set_cons_succ]
            refine wpAnyH_done (by kernel_rfl) ?_ _
            refine NoPanic.normal ?_
            clear hHeld
            clear m5 m6 hb6
            go_wp2
            go_roundg (24 - (m + 1))
            case rel => exact ⟨m + 1, by omega, by omega, rfl, rfl, by rw [HNX.out], B6⟩
            case measure => omega
        · obtain rfl : m = 24 := by omega
          have hq24 := qTo_lt l k 24 (by omega)
          go_wp2_with fail
          refine (s_l6Sum a 24 c (qTo l k 24) k l _ ((H.out.below HB1.out).below hB.out) HG.out (by omega) hk24).mono ?_
          rintro e w5 ⟨rfl, hb5⟩
          go_wp2
          go_ret3
          exact ⟨rfl, bstep HB1.out (bstep hB.out hb5)⟩

end Go.Proofs.Ytpmffboojkfpdaa

/-
  FlattenProfile in the reference.
-/
set_option linter.unusedVariables false
set_option linter.unusedSimpArgs false
namespace Go.Proofs.Ytpmffboojkfpdaa
open Go.RowKit

set_option maxRecDepth 100000 in
set_option maxHeartbeats 4000000 in
theorem s_FlattenProfile_yes (a : Option Addr) (n c : Nat) (most : Int) (l : List Int) (w : World) (hA : IntsAt w a n l) (h1 : goodProf l = true) (h2 : inR most 100 1000 = true) :
    Calls Try.prog 26 #[.agg #[.slice a n c], .int .i64 most] w fun e w' => ∃ a' c', e = .returned (.tuple #[.agg #[.slice a' 24 c'], .bool true]) ∧ OwnI w' w.heap.size (.slice a' 24 c') (fin most l) ∧ Below w.heap.size w w' := by
  have hn : n = 24 := by have := hA.1; have := (goodProf_iff.1 h1).1; omega
  have hm := inR_iff.1 h2
  have H := hid hA
  have HG := hid h1
  have H2 := hid h2
  clear hA h1 h2
  subst hn
  go_enter Try.func26, Try.ntmps26
  go_wp2_with fail
  refine (s_l6Good _ _ _ l _ (H.out.below (by go_grown)) (by omega)).mono ?_
  rintro e w1 ⟨rfl, hb1⟩
  rw [HG.out]
  have HB1 := hid (bstep (by go_grown) hb1 : Below w.heap.size w w1)
  have hz := hb1.size
  simp only [World.size_alloc] at hz
  have T1 := hid ((hb1.block (w.heap.size + 1) (by simp)).trans (last_newP (w.alloc _) _ _ (by simp)))
  have hz1 : w.heap.size + 1 < w1.heap.size := by omega
  have n0 : w1.cell? ⟨w.heap.size + 1, 0, none⟩ = some (.slice none 0 0) := by rw [cell_of_row w1 _ _ _ _ (0, 0) T1.out]; rfl
  have f0 := frozen_of_row w1 _ 0 _ _ T1.out
  have hb0 := (hb1.block w.heap.size (by simp <;> omega)).trans (mid_new w _ _ _ rfl)
  clear hb1
  have T0 := hid (hb0 : w1.heap[w.heap.size]? = some (.cells #[.slice a 24 c] 26 (0, 0)))
  have m0 : w1.cell? ⟨w.heap.size, 0, none⟩ = some (.slice a 24 c) := by rw [cell_of_row w1 _ _ _ _ (0, 0) T0.out]; rfl
  have hz0 : w.heap.size < w1.heap.size := by omega
  go_wp2_with fail
  refine (s_l1In _ _ _ _).mono ?_
  rintro e _ ⟨rfl, rfl⟩
  rw [H2.out]
  clear n0 f0 hb0
  go_wp2_with fail
  refine (s_l1Own _ _ _ l _ (H.out.below HB1.out) (by omega)).mono ?_
  rintro e w2 ⟨a2, c2, rfl, ho, hb2⟩
  obtain ⟨g, rfl, hg1, hg2⟩ := own_some ho (by decide)
  have T2 := hid ((hb2.block (w.heap.size + 1) hz1).trans T1.out)
  have HO2 := hid ho
  have HB2 := hid (bstep HB1.out hb2)
  have hz2 := hb2.size
  clear ho hb2 m0
  go_wp2_with fail
  refine (s_l6Peak _ _ _ l _ HO2.out.at (by omega) (by omega)).mono ?_
  rintro e w3 ⟨rfl, hb3⟩
  have HO := hid (HO2.out.below hb3)
  have HB3 := hid (bstep HB2.out hb3)
  have T3 := hid ((hb3.block (w.heap.size + 1) (by omega)).trans T2.out)
  clear hb3
  go_wp2
  go_loopg [7] (exc most l).toNat (fun gh s wr => ∃ L : List Int, gh = (exc most L).toNat ∧ s = .int .i64 (pkTo L 24) ∧ Hid (OwnI wr w1.heap.size (.slice (some ⟨g, 0, none⟩) 24 c2) L ∧ goodProf L = true ∧ fin most L = fin most l ∧ Below w.heap.size w wr) ∧ Hid (wr.heap[w.heap.size + 1]? = some (.cells #[.slice none 0 0] 26 (0, 0))))
  case atStart => exact ⟨l, rfl, rfl, hid ⟨HO.out, HG.out, rfl, HB3.out⟩, T3⟩
  case round =>
    obtain ⟨L, rfl, rfl, hh, hT⟩ := hrel
    have hL := (goodProf_iff.1 hh.out.2.1).1
    have hpl := pkTo_lt L 24 (by omega)
    have htl := lwTo_lt L 24 (by omega)
    have hb : ∀ j, j < 24 → 0 ≤ el L j ∧ el L j ≤ 1000 := fun j hj => (goodProf_iff.1 hh.out.2.1).2.1 _ (getD_mem' (by omega))
    have hbp : 0 ≤ L[pkTo L 24]?.getD 0 ∧ L[pkTo L 24]?.getD 0 ≤ 1000 := hb _ hpl
    have hbt : 0 ≤ L[lwTo L 24]?.getD 0 ∧ L[lwTo L 24]?.getD 0 ≤ 1000 := hb _ htl
    have HL := hid hL
    clear hb hL
    have hcp0 := hh.out.1.cell (k := pkTo L 24) hpl
    have hgw : g < wr.heap.size := (hh.out.1.lt _ rfl).2
    by_cases hgt : most < L[pkTo L 24]?.getD 0
    · have hlow := low_small hh.out.2.1 (by show 100 < L[pkTo L 24]?.getD 0; omega)
      have hne : pkTo L 24 ≠ lwTo L 24 := fun e => by rw [e] at hgt; simp only [el] at hlow; omega
      have SG := hid (stepF_good hh.out.2.1 hm.1 hgt)
      have SF := hid (fin_step hh.out.2.1 hm.1 hgt)
      have hex := exc_pos most (stepF L)
      have hex2 := SG.out.2
      obtain ⟨W0, hW0⟩ : ∃ W, W = wr := ⟨_, rfl⟩
      subst hW0
      go_wp2
      go_loopg [8, 9] 23 (fun gg lo i wx => ∃ k : Nat, 1 ≤ k ∧ k ≤ 24 ∧ gg = 24 - k ∧ i = .int .i64 k ∧ lo = .int .i64 (lwTo L k) ∧ Hid (Below W0.heap.size W0 wx))
      case atStart => exact ⟨1, by omega, by omega, rfl, rfl, by simp [lwTo], hid (Below.refl _ _)⟩
      case round =>
        obtain ⟨k, hk1, hk, rfl, rfl, rfl, hB⟩ := hrel
        have O2 := hid (hh.out.1.below hB.out)
        have hgx : g < wr.heap.size := by have := hB.out.size; omega
        by_cases hlt : k < 24
        · have hlk := lwTo_lt L k hk1
          have hln : lwTo L k < 24 := by omega
          have hck := O2.out.cell (k := k) hlt
          have hcl := O2.out.cell (k := lwTo L k) hln
          by_cases hls : L[k]?.getD 0 < L[lwTo L k]?.getD 0
          · have E := hid (show lwTo L (k + 1) = k by simp [lwTo, el, hls])
            go_wp2
            go_quiet (fail)
            go_wp2
            go_roundg (24 - (k + 1))
            case rel => exact ⟨k + 1, by omega, by omega, rfl, by go_num, by rw [E.out], hid (below_drewN hB.out _)⟩
            case measure => omega
          · have E := hid (show lwTo L (k + 1) = lwTo L k by simp [lwTo, el, hls])
            go_wp2
            go_quiet (fail)
            go_wp2
            go_roundg (24 - (k + 1))
            case rel => exact ⟨k + 1, by omega, by omega, rfl, by go_num, by rw [E.out], hid (below_drewN hB.out _)⟩
            case measure => omega
        · obtain rfl : k = 24 := by omega
          have hcp := O2.out.cell (k := pkTo L 24) hpl
          have hct := O2.out.cell (k := lwTo L 24) htl
          have hfp := O2.out.frozen (k := pkTo L 24)
          have hft := O2.out.frozen (k := lwTo L 24)
          have hne2 : ¬ lwTo L 24 = pkTo L 24 := fun e => hne e.symm
          obtain ⟨o1, o2⟩ := own_step O2.out hne
          have O1 := hid o1
          have O3 := hid o2
          clear o1 o2 hcp0
          go_wp2_with fail
          refine (s_l6Peak _ _ _ (stepF L) _ O1.out.at (by omega) (by omega)).mono ?_
          rintro e w5 ⟨rfl, hb5⟩
          have HB5 := hid hb5
          clear hb5
          go_wp2
          go_roundg (exc most (stepF L)).toNat
          case rel =>
            have hrow := (hB.out.block (w.heap.size + 1) (Array.getElem?_eq_some_iff.1 hT.out).1).trans hT.out
            have hrow2 := other_cell (b := g) (o := lwTo L 24) (u := .int .i64 (el L (lwTo L 24) + 1)) (other_cell (b := g) (o := pkTo L 24) (u := .int .i64 (el L (pkTo L 24) - 1)) hrow (by omega)) (by omega)
            exact ⟨stepF L, rfl, rfl, hid ⟨O1.out.below HB5.out, SG.out.1, SF.out.symm.trans hh.out.2.2.1, bstep ((bstep hh.out.2.2.2 hB.out).grown O3.out (bstep hh.out.2.2.2 hB.out).size (fun q hq => by have := HB1.out.size; simp only [Option.some.injEq] at hq; omega)) HB5.out⟩, hid ((HB5.out.block _ (Array.getElem?_eq_some_iff.1 hrow2).1).trans hrow2)⟩
          case measure => omega
    · have FD := hid (fin_done (L := L) hgt)
      have hz9 : w.heap.size + 1 < wr.heap.size := (Array.getElem?_eq_some_iff.1 hT.out).1
      have n0 : wr.cell? ⟨w.heap.size + 1, 0, none⟩ = some (.slice none 0 0) := by rw [cell_of_row wr _ _ _ _ (0, 0) hT.out]; rfl
      have f0 := frozen_of_row wr _ 0 _ _ hT.out
      go_wp2
      have e7 := heap_setCell_same _ _ 0 _ _ (.slice (some ⟨g, 0, none⟩) 24 c2) hT.out
      have u0 := cell_of_row _ _ 0 _ _ (0, 0) e7
      simp only [List.setIfInBounds_toArray, List.set_cons_zero, List.getElem?_toArray, List.getElem?_cons_zero] at u0
      refine bodyPost_ret (v := .tuple #[.agg #[.slice (some ⟨g, 0, none⟩) 24 c2], .bool true]) (by simp [results, Try.results26, go_sem, *]) rfl ⟨_, _, rfl, ?_, ?_⟩
      · have e : fin most l = L := hh.out.2.2.1.symm.trans FD.out
        rw [e]
        exact (hh.out.1.far (by have := HB1.out.size; omega)).mono HB1.out.size
      · exact hh.out.2.2.2.setCell (by show _ ≤ w.heap.size + 1; omega) _

end Go.Proofs.Ytpmffboojkfpdaa

/-
  FlattenProfile, for all arguments.
-/
set_option linter.unusedVariables false
set_option linter.unusedSimpArgs false
namespace Go.Proofs.Ytpmffboojkfpdaa
open Go.RowKit

theorem flatF_len (most : Int) : ∀ (k : Nat) (L : List Int), (flat most k L).length = L.length
  | 0, L => rfl
  | k + 1, L => by
    unfold flat
    split
    · rw [flatF_len most k]
      simp [stepF]
    · rfl
theorem fin_len (most : Int) (L : List Int) : (fin most L).length = L.length := flatF_len _ _ _
theorem flatR_len {l R : List Int} {h : Int} {b : Bool} (e : flatR l h = (R, b)) : R.length ≤ 24 := by
  unfold flatR at e
  split at e
  · rename_i hh
    cases e
    rw [fin_len, (goodProf_iff.1 hh.1).1]
    exact Nat.le_refl _
  · cases e; exact Nat.zero_le _

set_option maxRecDepth 100000 in
theorem i_FlattenProfile_no (a : Option Addr) (n c : Nat) (h : Int) (l : List Int) (w : World) (hA : IntsAt w a n l) (hn : n ≤ 1048576) (hv : (goodProf l && inR h 100 1000) = false) :
    Calls Try.prog 27 #[.agg #[.slice a n c], .int .i64 h] w fun e w' => ∃ a' c', e = .returned (.tuple #[.agg #[.slice a' 0 c'], .bool false]) ∧ OwnI w' w.heap.size (.slice a' 0 c') [] ∧ Below w.heap.size w w' := by
  have H := hid hA
  clear hA
  cases h1 : goodProf l
  · have HG := hid h1
    clear h1 hv
    go_enter Try.func27, Try.ntmps27
    go_wp2_with fail
    refine (i_IsValidProfile _ _ _ l _ (H.out.below (by go_grown)) (by omega)).mono ?_
    rintro e w1 ⟨rfl, hb1⟩
    rw [HG.out]
    have HB1 := hid (bstep (by go_grown) hb1 : Below w.heap.size w w1)
    have hz := hb1.size
    simp only [World.size_alloc] at hz
    have T1 := hid ((hb1.block (w.heap.size + 1) (by simp)).trans (last_newP (w.alloc _) _ _ (by simp)))
    have hz1 : w.heap.size + 1 < w1.heap.size := by omega
    have n0 : w1.cell? ⟨w.heap.size + 1, 0, none⟩ = some (.slice none 0 0) := by rw [cell_of_row w1 _ _ _ _ (0, 0) T1.out]; rfl
    have f0 := frozen_of_row w1 _ 0 _ _ T1.out
    clear hb1
    go_wp2
    have e7 := heap_setCell_same _ _ 0 _ _ (.slice none 0 0) T1.out
    have u0 := cell_of_row _ _ 0 _ _ (0, 0) e7
    simp only [List.setIfInBounds_toArray, List.set_cons_zero, List.getElem?_toArray, List.getElem?_cons_zero] at u0
    refine bodyPost_ret (v := .tuple #[.agg #[.slice none 0 0], .bool false]) (by simp [results, Try.results27, go_sem, *]) rfl ⟨_, _, rfl, World.ownsRow_nil _ _ _ _, HB1.out.setCell (by show _ ≤ w.heap.size + 1; omega) _⟩
  · have HG := hid h1
    have H2 : Hid (inR h 100 1000 = false) := hid (by rw [h1] at hv; exact hv)
    clear h1 hv
    go_enter Try.func27, Try.ntmps27
    go_wp2_with fail
    refine (i_IsValidProfile _ _ _ l _ (H.out.below (by go_grown)) (by omega)).mono ?_
    rintro e w1 ⟨rfl, hb1⟩
    rw [HG.out]
    have HB1 := hid (bstep (by go_grown) hb1 : Below w.heap.size w w1)
    have hz := hb1.size
    simp only [World.size_alloc] at hz
    have T1 := hid ((hb1.block (w.heap.size + 1) (by simp)).trans (last_newP (w.alloc _) _ _ (by simp)))
    have hz1 : w.heap.size + 1 < w1.heap.size := by omega
    have n0 : w1.cell? ⟨w.heap.size + 1, 0, none⟩ = some (.slice none 0 0) := by rw [cell_of_row w1 _ _ _ _ (0, 0) T1.out]; rfl
    have f0 := frozen_of_row w1 _ 0 _ _ T1.out
    clear hb1
    go_wp2_with fail
    refine (i_inside _ _ _ _).mono ?_
    rintro e _ ⟨rfl, rfl⟩
    rw [H2.out]
    go_wp2
    have e7 := heap_setCell_same _ _ 0 _ _ (.slice none 0 0) T1.out
    have u0 := cell_of_row _ _ 0 _ _ (0, 0) e7
    simp only [List.setIfInBounds_toArray, List.set_cons_zero, List.getElem?_toArray, List.getElem?_cons_zero] at u0
    refine bodyPost_ret (v := .tuple #[.agg #[.slice none 0 0], .bool false]) (by simp [results, Try.results27, go_sem, *]) rfl ⟨_, _, rfl, World.ownsRow_nil _ _ _ _, HB1.out.setCell (by show _ ≤ w.heap.size + 1; omega) _⟩

theorem i_FlattenProfile (a : Option Addr) (n c : Nat) (h : Int) (l : List Int) (w : World) (hA : IntsAt w a n l) (hn : n ≤ 1048576) (R : List Int) (b : Bool) (hR : flatR l h = (R, b)) :
    Calls Try.prog 27 #[.agg #[.slice a n c], .int .i64 h] w fun e w' => ∃ a' c', e = .returned (.tuple #[.agg #[.slice a' R.length c'], .bool b]) ∧ OwnI w' w.heap.size (.slice a' R.length c') R ∧ Below w.heap.size w w' := by
  by_cases hv : (goodProf l && inR h 100 1000) = true
  · obtain ⟨h1, h2⟩ := (Bool.and_eq_true _ _).mp hv
    have e0 : flatR l h = (fin h l, true) := by unfold flatR; rw [if_pos ⟨h1, h2⟩]
    rw [e0] at hR
    cases hR
    rw [fin_len, (goodProf_iff.1 h1).1]
    exact i_FlattenProfile_yes a n c h l w hA h1 h2
  · have hv' : (goodProf l && inR h 100 1000) = false := by simpa using hv
    have e0 : flatR l h = ([], false) := by
      unfold flatR
      rw [if_neg]
      rintro ⟨x, y⟩
      rw [x, y] at hv'
      cases hv'
    rw [e0] at hR
    cases hR
    exact i_FlattenProfile_no a n c h l w hA hn hv'
set_option maxRecDepth 100000 in
theorem s_FlattenProfile_no (a : Option Addr) (n c : Nat) (h : Int) (l : List Int) (w : World) (hA : IntsAt w a n l) (hn : n ≤ 1048576) (hv : (goodProf l && inR h 100 1000) = false) :
    Calls Try.prog 26 #[.agg #[.slice a n c], .int .i64 h] w fun e w' => ∃ a' c', e = .returned (.tuple #[.agg #[.slice a' 0 c'], .bool false]) ∧ OwnI w' w.heap.size (.slice a' 0 c') [] ∧ Below w.heap.size w w' := by
  have H := hid hA
  clear hA
  cases h1 : goodProf l
  · have HG := hid h1
    clear h1 hv
    go_enter Try.func26, Try.ntmps26
    go_wp2_with fail
    refine (s_l6Good _ _ _ l _ (H.out.below (by go_grown)) (by omega)).mono ?_
    rintro e w1 ⟨rfl, hb1⟩
    rw [HG.out]
    have HB1 := hid (bstep (by go_grown) hb1 : Below w.heap.size w w1)
    have hz := hb1.size
    simp only [World.size_alloc] at hz
    have T1 := hid ((hb1.block (w.heap.size + 1) (by simp)).trans (last_newP (w.alloc _) _ _ (by simp)))
    have hz1 : w.heap.size + 1 < w1.heap.size := by omega
    have n0 : w1.cell? ⟨w.heap.size + 1, 0, none⟩ = some (.slice none 0 0) := by rw [cell_of_row w1 _ _ _ _ (0, 0) T1.out]; rfl
    have f0 := frozen_of_row w1 _ 0 _ _ T1.out
    clear hb1
    go_wp2
    have e7 := heap_setCell_same _ _ 0 _ _ (.slice none 0 0) T1.out
    have u0 := cell_of_row _ _ 0 _ _ (0, 0) e7
    simp only [List.setIfInBounds_toArray, List.set_cons_zero, List.getElem?_toArray, List.getElem?_cons_zero] at u0
    refine bodyPost_ret (v := .tuple #[.agg #[.slice none 0 0], .bool false]) (by simp [results, Try.results26, go_sem, *]) rfl ⟨_, _, rfl, World.ownsRow_nil _ _ _ _, HB1.out.setCell (by show _ ≤ w.heap.size + 1; omega) _⟩
  · have HG := hid h1
    have H2 : Hid (inR h 100 1000 = false) := hid (by rw [h1] at hv; exact hv)
    clear h1 hv
    go_enter Try.func26, Try.ntmps26
    go_wp2_with fail
    refine (s_l6Good _ _ _ l _ (H.out.below (by go_grown)) (by omega)).mono ?_
    rintro e w1 ⟨rfl, hb1⟩
    rw [HG.out]
    have HB1 := hid (bstep (by go_grown) hb1 : Below w.heap.size w w1)
    have hz := hb1.size
    simp only [World.size_alloc] at hz
    have T1 := hid ((hb1.block (w.heap.size + 1) (by simp)).trans (last_newP (w.alloc _) _ _ (by simp)))
    have hz1 : w.heap.size + 1 < w1.heap.size := by omega
    have n0 : w1.cell? ⟨w.heap.size + 1, 0, none⟩ = some (.slice none 0 0) := by rw [cell_of_row w1 _ _ _ _ (0, 0) T1.out]; rfl
    have f0 := frozen_of_row w1 _ 0 _ _ T1.out
    clear hb1
    go_wp2_with fail
    refine (s_l1In _ _ _ _).mono ?_
    rintro e _ ⟨rfl, rfl⟩
    rw [H2.out]
    go_wp2
    have e7 := heap_setCell_same _ _ 0 _ _ (.slice none 0 0) T1.out
    have u0 := cell_of_row _ _ 0 _ _ (0, 0) e7
    simp only [List.setIfInBounds_toArray, List.set_cons_zero, List.getElem?_toArray, List.getElem?_cons_zero] at u0
    refine bodyPost_ret (v := .tuple #[.agg #[.slice none 0 0], .bool false]) (by simp [results, Try.results26, go_sem, *]) rfl ⟨_, _, rfl, World.ownsRow_nil _ _ _ _, HB1.out.setCell (by show _ ≤ w.heap.size + 1; omega) _⟩

theorem s_FlattenProfile (a : Option Addr) (n c : Nat) (h : Int) (l : List Int) (w : World) (hA : IntsAt w a n l) (hn : n ≤ 1048576) (R : List Int) (b : Bool) (hR : flatR l h = (R, b)) :
    Calls Try.prog 26 #[.agg #[.slice a n c], .int .i64 h] w fun e w' => ∃ a' c', e = .returned (.tuple #[.agg #[.slice a' R.length c'], .bool b]) ∧ OwnI w' w.heap.size (.slice a' R.length c') R ∧ Below w.heap.size w w' := by
  by_cases hv : (goodProf l && inR h 100 1000) = true
  · obtain ⟨h1, h2⟩ := (Bool.and_eq_true _ _).mp hv
    have e0 : flatR l h = (fin h l, true) := by unfold flatR; rw [if_pos ⟨h1, h2⟩]
    rw [e0] at hR
    cases hR
    rw [fin_len, (goodProf_iff.1 h1).1]
    exact s_FlattenProfile_yes a n c h l w hA h1 h2
  · have hv' : (goodProf l && inR h 100 1000) = false := by simpa using hv
    have e0 : flatR l h = ([], false) := by
      unfold flatR
      rw [if_neg]
      rintro ⟨x, y⟩
      rw [x, y] at hv'
      cases hv'
    rw [e0] at hR
    cases hR
    exact s_FlattenProfile_no a n c h l w hA hn hv'

end Go.Proofs.Ytpmffboojkfpdaa

