/-
  Texts of this claim, joined: ProfJ, CurP, CurH, Lift, LiftG.
-/
import Derived.StillTailTactics
import Derived.Test.YtpmffboojkfpdaaRows
import Derived.ProofKit
import Derived.OpenShut
import Derived.Carry
import Derived.Lib.SmallJoins
import Derived.Test.YtpmffboojkfpdaaUs1
import Derived.Test.YtpmffboojkfpdaaUs2
import Derived.Test.YtpmffboojkfpdaaUs3
/-
  Flattening a profile: the program and the reference.
-/
set_option linter.unusedVariables false
set_option linter.unusedSimpArgs false
namespace Go.Proofs.Ytpmffboojkfpdaa
open Go.RowKit

theorem own_some {w : World} {B n c : Nat} {a : Option Addr} {l : List Int} (h : OwnI w B (.slice a n c) l) (hn : 0 < n) : ∃ g, a = some ⟨g, 0, none⟩ ∧ B ≤ g ∧ g < w.heap.size := by
  have hlt := h.lt
  have hl := h.len
  unfold OwnI at h
  rcases h.2 with ⟨h1, h0⟩ | ⟨g, cap, cur, h1, hB, hg, hnc, hm, hs, ht⟩
  · simp only [Value.slice.injEq] at h1
    omega
  · simp only [Value.slice.injEq] at h1
    obtain ⟨rfl, -, rfl⟩ := h1
    exact ⟨g, rfl, hlt g rfl⟩

theorem f_Index (a : Option Addr) (n c p : Nat) (v : Int) (l : List Int) (w : World) (h : IntsAt w a n l) (hn : n ≤ 4194304) (hp : p < n) (hv : el l p = v) (hf : ∀ j, j < p → el l j ≠ v) :
    Calls Try.prog 85 #[.slice a n c, .int .i64 v] w fun e w' => e = .returned (.int .i64 p) ∧ w = w' := by
  have H := hid h
  have HF := hid hf
  have HV := hid hv
  clear h hf hv
  go_enter Try.func85, Try.ntmps85
  go_wp2
  go_loopg [8] p (fun g i wr => ∃ k : Nat, k ≤ p ∧ g = p - k ∧ i = .int .i64 k ∧ w = wr)
  case atStart => exact ⟨0, Nat.zero_le _, rfl, rfl, rfl⟩
  case round =>
    obtain ⟨k, hk, rfl, rfl, rfl⟩ := hrel
    have hkn : k < n := by omega
    obtain ⟨b, off, rfl, hbw, hcell⟩ := H.out.2 k hkn
    by_cases hlt : k < p
    · have hne : ¬ v = l[k]?.getD 0 := fun e => HF.out k hlt e.symm
      go_wp2
      go_roundg (p - (k + 1))
      case rel => exact ⟨k + 1, by omega, rfl, by go_num, rfl⟩
      case measure => omega
    · obtain rfl : k = p := by omega
      have ha : v ≤ l[k]?.getD 0 := by have := HV.out; simp only [el] at this; omega
      have hb : l[k]?.getD 0 ≤ v := by have := HV.out; simp only [el] at this; omega
      go_wp2
      go_ret
      exact ⟨rfl, rfl⟩

set_option maxHeartbeats 1000000 in
theorem s_l6Peak (a : Option Addr) (n c : Nat) (l : List Int) (w : World) (h : IntsAt w a n l) (hn1 : 1 ≤ n) (hn : n ≤ 4194304) :
    Calls Try.prog 83 #[.slice a n c] w fun e w' => e = .returned (.int .i64 (pkTo l n)) ∧ Below w.heap.size w w' := by
  have H := hid h
  obtain ⟨b, off, rfl, hbw0, -⟩ := h.2 0 (by omega)
  clear h
  go_enter Try.func83, Try.ntmps83
  go_wp2
  go_loopg [3, 4] (n - 1) (fun g s i wr => ∃ k : Nat, 1 ≤ k ∧ k ≤ n ∧ g = n - k ∧ i = .int .i64 k ∧ s = .int .i64 (pkTo l k) ∧ Hid (Below w.heap.size w wr))
  case atStart => exact ⟨1, by omega, hn1, rfl, rfl, by simp [pkTo], hid (Below.refl _ _)⟩
  case round =>
    obtain ⟨k, hk1, hk, rfl, rfl, rfl, hB⟩ := hrel
    by_cases hlt : k < n
    · have hpk := pkTo_lt l k hk1
      have hpn : pkTo l k < n := by omega
      obtain ⟨_, _, e1, hbw, hck⟩ := (H.out.below hB.out).2 k hlt
      cases e1
      obtain ⟨_, _, e2, _, hcp⟩ := (H.out.below hB.out).2 (pkTo l k) hpn
      cases e2
      by_cases hgt : l[pkTo l k]?.getD 0 < l[k]?.getD 0
      · have E := hid (show pkTo l (k + 1) = k by simp [pkTo, el, hgt])
        go_wp2
        go_quiet (fail)
        go_wp2
        go_roundg (n - (k + 1))
        case rel => exact ⟨k + 1, by omega, by omega, rfl, by go_num, by rw [E.out], hid (below_drewN hB.out _)⟩
        case measure => omega
      · have E := hid (show pkTo l (k + 1) = pkTo l k by simp [pkTo, el, hgt])
        go_wp2
        go_quiet (fail)
        go_wp2
        go_roundg (n - (k + 1))
        case rel => exact ⟨k + 1, by omega, by omega, rfl, by go_num, by rw [E.out], hid (below_drewN hB.out _)⟩
        case measure => omega
    · obtain rfl : k = n := by omega
      go_wp2
      go_ret
      exact ⟨rfl, hB.out⟩

/-- The two stores of a step. -/
theorem own_step {w : World} {B g c : Nat} {L : List Int} (h : OwnI w B (.slice (some ⟨g, 0, none⟩) 24 c) L) (hne : pkTo L 24 ≠ lwTo L 24) :
    OwnI ((w.setCell ⟨g, pkTo L 24, none⟩ (.int .i64 (el L (pkTo L 24) - 1))).setCell ⟨g, lwTo L 24, none⟩ (.int .i64 (el L (lwTo L 24) + 1))) B (.slice (some ⟨g, 0, none⟩) 24 c) (stepF L) ∧
      w.grownBy ((w.setCell ⟨g, pkTo L 24, none⟩ (.int .i64 (el L (pkTo L 24) - 1))).setCell ⟨g, lwTo L 24, none⟩ (.int .i64 (el L (lwTo L 24) + 1))) (some g) := by
  have hl := h.len
  have h1 := h.set (k := pkTo L 24) (el L (pkTo L 24) - 1)
  have h2 := h1.1.set (k := lwTo L 24) (el L (lwTo L 24) + 1)
  refine ⟨?_, grownBy_trans h1.2 h2.2⟩
  have e : stepF L = (L.set (pkTo L 24) (el L (pkTo L 24) - 1)).set (lwTo L 24) (el L (lwTo L 24) + 1) := by
    simp only [stepF]
    rw [el_set _ _ _ _ (by have := pkTo_lt L 24 (by omega); omega), if_neg hne]
  rw [e]
  exact h2.1

end Go.Proofs.Ytpmffboojkfpdaa

/-
  A profile's draw.
-/
set_option linter.unusedVariables false
set_option linter.unusedSimpArgs false
namespace Go.Proofs.Ytpmffboojkfpdaa
open Go.RowKit

/-- A profile in the making: its box pb, its numbers in block z, the result's place, and the cursor. -/
structure PB (w W : World) (g K pb z c : Nat) (L : List Int) : Prop where
  cur : Cur W g K
  gro : w.grownBy W (some g)
  own : OwnI W w.heap.size (.slice (some ⟨z, 0, none⟩) 24 c) L
  box : W.heap[pb]? = some (.cells #[.slice (some ⟨z, 0, none⟩) 24 c] 26 (0, 0))
  res : W.heap[w.heap.size]? = some (.cells #[.slice none 0 0] 26 (0, 0))
  gb : g < w.heap.size
  lo : w.heap.size < pb
  zp : z ≠ pb
  zr : z ≠ w.heap.size
section
variable {w W W' : World} {g K pb z c : Nat} {L : List Int}
theorem PB.pbz (h : PB w W g K pb z c L) : pb < W.heap.size := (Array.getElem?_eq_some_iff.1 h.box).1
theorem PB.rz (h : PB w W g K pb z c L) : w.heap.size < W.heap.size := (Array.getElem?_eq_some_iff.1 h.res).1
theorem PB.zz (h : PB w W g K pb z c L) : w.heap.size ≤ z ∧ z < W.heap.size := h.own.lt z rfl
theorem PB.step {K' : Nat} (h : PB w W g K pb z c L) (hc : Cur W' g K') (hg : W.grownBy W' (some g)) : PB w W' g K' pb z c L := by
  have h1 := h.gb
  have h2 := h.lo
  have h3 := h.zz
  refine ⟨hc, grownBy_trans h.gro hg, h.own.kept hg (.inr (fun e => by have : z = g := Option.some.inj e; omega)), ?_, ?_, h.gb, h.lo, h.zp, h.zr⟩
  · exact (hg.block pb h.pbz (fun e => by have := Option.some.inj e; omega)).trans h.box
  · exact (hg.block _ h.rz (fun e => by have := Option.some.inj e; omega)).trans h.res
theorem PB.below (h : PB w W g K pb z c L) (hb : Below W.heap.size W W') : PB w W' g K pb z c L := h.step (h.cur.below hb) (grown_of_below hb _)
theorem PB.le {K' : Nat} (h : PB w W g K pb z c L) (hk : K ≤ K') : PB w W g K' pb z c L := ⟨h.cur.le hk, h.gro, h.own, h.box, h.res, h.gb, h.lo, h.zp, h.zr⟩
theorem PB.set (h : PB w W g K pb z c L) (i : Nat) (x : Int) : PB w (W.setCell ⟨z, i, none⟩ (.int .i64 x)) g K pb z c (L.set i x) := by
  have h1 := h.gb
  have h2 := h.lo
  have h3 := h.zz
  have h4 := h.zp
  have h5 := h.zr
  refine ⟨h.cur.set (by omega), grown_set h.gro h3.1, (h.own.set (k := i) x).1, other_cell h.box (fun e => h4 e.symm), other_cell h.res (fun e => h5 e.symm), h.gb, h.lo, h.zp, h.zr⟩
theorem PB.cells (h : PB w W g K pb z c L) : W.cell? ⟨pb, 0, none⟩ = some (.slice (some ⟨z, 0, none⟩) 24 c) ∧ ∀ j, j < 24 → W.cell? ⟨z, j, none⟩ = some (.int .i64 (L[j]?.getD 0)) :=
  ⟨by rw [cell_of_row W _ _ _ _ (0, 0) h.box]; rfl, fun j hj => h.own.cell hj⟩
end

theorem oi_cap {w : World} {B n c : Nat} {a : Option Addr} {l : List Int} (h : OwnI w B (.slice a n c) l) : n ≤ c := by
  have hl := h.len
  rcases (show w.ownsRow _ _ _ _ _ _ from h).2 with ⟨h1, h0⟩ | ⟨g, cap, cur, h1, hB, hg, hnc, -⟩
  · simp only [Value.slice.injEq] at h1
    omega
  · simp only [Value.slice.injEq] at h1
    omega
/-- A finished profile, in its box. -/
structure PF (w W : World) (g K pb : Nat) (a : Option Addr) (n c : Nat) (L : List Int) : Prop where
  cur : Cur W g K
  gro : w.grownBy W (some g)
  ia : IntsAt W a n L
  box : W.heap[pb]? = some (.cells #[.slice a n c] 26 (0, 0))
  res : W.heap[w.heap.size]? = some (.cells #[.slice none 0 0] 26 (0, 0))
  gb : g < w.heap.size
  lo : w.heap.size < pb
  fr : ∀ b o, a = some ⟨b, o, none⟩ → w.heap.size < b
theorem PF.fresh {w W : World} {g K pb n c : Nat} {a : Option Addr} {L : List Int} (h : PF w W g K pb a n c L) : ∀ b o, a = some ⟨b, o, none⟩ → w.heap.size ≤ b := fun b o e => by have := h.fr b o e; omega
theorem PF.after {w W : World} {g K pb n c : Nat} {a : Option Addr} {L : List Int} (h : PF w W g K pb a n c L) {v : Value} : IntsAt (W.setCell ⟨w.heap.size, 0, none⟩ v) a n L :=
  h.ia.kept (grown_setCell W w.heap.size 0 v) (fun b o e e2 => by have := h.fr b o e; have := Option.some.inj e2; omega)
theorem PB.pf {w W : World} {g K pb z c : Nat} {L : List Int} (h : PB w W g K pb z c L) : PF w W g K pb (some ⟨z, 0, none⟩) 24 c L :=
  ⟨h.cur, h.gro, h.own.at, h.box, h.res, h.gb, h.lo, fun b o e => by
    have h1 := h.zz.1
    have h2 := h.zr
    simp only [Option.some.injEq, Addr.mk.injEq] at e
    omega⟩
/-- The first hour is cut off. -/
theorem PB.cut {w W : World} {g K pb z c : Nat} {L : List Int} (h : PB w W g K pb z c L) {c' : Nat} : PF w (W.setCell ⟨pb, 0, none⟩ (.slice (some ⟨z, 1, none⟩) 23 c')) g K pb (some ⟨z, 1, none⟩) 23 c' (L.drop 1) := by
  have h1 := h.zz
  have h2 := h.zr
  have h3 := h.zp
  have h4 := h.lo
  have h5 := h.gb
  have hL := h.own.len
  refine ⟨h.cur.set (by omega), grown_set h.gro (by omega), ⟨by rw [List.length_drop]; omega, fun k hk => ⟨z, 1, rfl, by have := (grown_setCell W pb 0 (.slice (some ⟨z, 1, none⟩) 23 c')).size; omega, ?_⟩⟩, ?_, other_cell h.res (by omega), h.gb, h.lo, fun b o e => by
    simp only [Option.some.injEq, Addr.mk.injEq] at e
    omega⟩
  · rw [List.getElem?_drop]
    have e1 := h.own.cell (k := 1 + k) (by omega)
    rw [← e1]
    exact World.cell?_setCell_far _ _ _ _ (fun e => h3 e.symm)
  · have e := heap_setCell_same _ _ 0 _ _ (.slice (some ⟨z, 1, none⟩) 23 c') h.box
    simpa using e
/-- Other numbers are laid into the box. -/
theorem PB.swap {w W W' : World} {g K pb z z' c c' : Nat} {L L' : List Int} (h : PB w W g K pb z c L) (hb : Below W.heap.size W W') (ho : OwnI W' W.heap.size (.slice (some ⟨z', 0, none⟩) 24 c') L') : PB w (W'.setCell ⟨pb, 0, none⟩ (.slice (some ⟨z', 0, none⟩) 24 c')) g K pb z' c' L' := by
  have h1 := h.pbz
  have h2 := h.rz
  have h4 := h.lo
  have h5 := h.gb
  have hz := ho.lt z' rfl
  have hs := hb.size
  refine ⟨(h.cur.below hb).set (by omega), grown_set (grownBy_trans h.gro (grown_of_below hb _)) (by omega), (ho.kept (grown_setCell W' pb 0 _) (.inr (fun e => by have : z' = pb := Option.some.inj e; omega))).mono (by omega), ?_, other_cell ((hb.block _ h2).trans h.res) (by omega), h.gb, h.lo, by omega, by omega⟩
  have e := heap_setCell_same _ _ 0 _ _ (.slice (some ⟨z', 0, none⟩) 24 c') ((hb.block _ h1).trans h.box)
  simpa using e

set_option maxRecDepth 100000 in
set_option maxHeartbeats 16000000 in
theorem c_profile (g K : Nat) (w : World) (h : Cur w g K) (hK : K ≤ 100000000) :
    Calls Try.prog 86 #[.pointer (some ⟨g, 0, none⟩)] w fun e w' => (∃ (a : Option Addr) (n c : Nat), e = .returned (.agg #[.slice a n c]) ∧ n ≤ 24 ∧ ∃ L : List Int, IntsAt w' a n L ∧ ∀ b o, a = some ⟨b, o, none⟩ → w.heap.size ≤ b) ∧ Cur w' g (K + 100) ∧ w.grownBy w' (some g) := by
  have H := hid h
  have hgz := h.lt
  clear h
  go_enter Try.func86, Try.ntmps86
  go_wp2_with fail
  refine (s_FlatProfile _).mono ?_
  rintro e w1 ⟨a0, c0, rfl, ho, hb⟩
  obtain ⟨z, rfl, hz1, hz2⟩ := own_some ho (by decide)
  simp only [World.size_alloc] at ho hz1
  have R1 := (hb.block w.heap.size (by simp)).trans (heap_alloc_new w _)
  have BW1 : Below w.heap.size w w1 := bstep (by go_grown) hb
  have S1 := hid (show PB w (w1.alloc (.cells #[.slice (some ⟨z, 0, none⟩) 24 c0] 26)) g K w1.heap.size z c0 (List.replicate 24 100) from
    ⟨H.out.below (bstep BW1 (by go_grown)), grown_of_below (bstep BW1 (by go_grown)) _, (ho.alloc _).mono (by omega), heap_alloc_new _ _, (Below.heap_alloc _ _ _ (by omega)).trans R1, hgz, by omega, by omega, by omega⟩)
  have hwp : w.heap.size < w1.heap.size := by omega
  clear ho hb R1 BW1
  go_wp2_with fail
  generalize w1.alloc (.cells #[.slice (some ⟨z, 0, none⟩) 24 c0] 26) = w2 at *
  generalize w1.heap.size = pb at *
  refine (c_pick g _ 12 _ S1.out.cur (by omega) (by omega)).mono ?_
  rintro e w3 ⟨⟨v, rfl, hv0, hv1⟩, hc, hg⟩
  have S3 := hid (S1.out.step hc hg)
  obtain ⟨T, rfl⟩ : ∃ T : Nat, v = T := ⟨v.toNat, by omega⟩
  have hT : T ≤ 11 := by omega
  clear hc hg S1 hv0 hv1
  go_wp2
  go_loopg [4] T (fun gm s wr => ∃ (k : Nat) (L : List Int), k ≤ T ∧ k = gm ∧ s = .int .i64 k ∧ Hid (PB w wr g (K + 2 + 6 * (T - k)) pb z c0 L))
  case atStart => exact ⟨T, _, Nat.le_refl _, rfl, rfl, hid (S3.out.le (by omega))⟩
  case round =>
    obtain ⟨k, L, hk, rfl, rfl, hS⟩ := hrel
    clear S3
    by_cases hk0 : 0 < k
    · have hk0i : (0 : Int) < (k : Int) := by omega
      go_wp2_with fail
      refine (c_pick g _ 24 _ hS.out.cur (by omega) (by omega)).mono ?_
      rintro e w4 ⟨⟨v, rfl, hv0, hv1⟩, hc, hg⟩
      obtain ⟨i, rfl⟩ : ∃ i : Nat, v = i := ⟨v.toNat, by omega⟩
      have S4 := hid (hS.out.step hc hg)
      have hi : i < 24 := by omega
      clear hc hg hv0 hv1
      go_wp2_with fail
      refine (c_pick g _ 24 _ S4.out.cur (by omega) (by omega)).mono ?_
      rintro e w5 ⟨⟨v, rfl, hv0, hv1⟩, hc, hg⟩
      obtain ⟨j, rfl⟩ : ∃ j : Nat, v = j := ⟨v.toNat, by omega⟩
      have S5 := hid (S4.out.step hc hg)
      have hj : j < 24 := by omega
      clear hc hg hv0 hv1 S4 hS
      have hii : (i : Int) < 24 := by omega
      have hji : (j : Int) < 24 := by omega
      obtain ⟨vi, hvi⟩ : ∃ v, L[i]?.getD 0 = v := ⟨_, rfl⟩
      obtain ⟨vj, hvj⟩ : ∃ v, L[j]?.getD 0 = v := ⟨_, rfl⟩
      have HC := hid (fun (W : World) (c9 : PB w W g (K + 2 + 6 * (T - k) + 2 + 2) pb z c0 L) => (⟨c9.cells.1, by rw [c9.cells.2 i hi, hvi], by rw [c9.cells.2 j hj, hvj]⟩ : W.cell? ⟨pb, 0, none⟩ = some (.slice (some ⟨z, 0, none⟩) 24 c0) ∧ W.cell? ⟨z, i, none⟩ = some (.int .i64 vi) ∧ W.cell? ⟨z, j, none⟩ = some (.int .i64 vj)))
      have HC2 := hid (fun (W : World) (c9 : PB w W g (K + 2 + 6 * (T - k) + 2 + 2 + 2) pb z c0 L) => (⟨c9.cells.1, by rw [c9.cells.2 i hi, hvi], by rw [c9.cells.2 j hj, hvj]⟩ : W.cell? ⟨pb, 0, none⟩ = some (.slice (some ⟨z, 0, none⟩) 24 c0) ∧ W.cell? ⟨z, i, none⟩ = some (.int .i64 vi) ∧ W.cell? ⟨z, j, none⟩ = some (.int .i64 vj)))
      clear hvi hvj
      go_upto_region 6 with fail
      refine wp_region_noPanic ?_
      refine wp_region_held_drew (S := (fun w' => w'.cell? ⟨pb, 0, none⟩ = some (.slice (some ⟨z, 0, none⟩) 24 c0) ∧ w'.cell? ⟨z, i, none⟩ = some (.int .i64 vi) ∧ w'.cell? ⟨z, j, none⟩ = some (.int .i64 vj))) (by kernel_rfl) (by exact (HC.out _ (S5.out.below ((Below.refl _ _).drew)))) (fun hHeld => ?_)
      refine wpAnyH_take' (i := 0) (v := ?_) rfl (by kernel_rfl) (by kernel_rfl) (by kernel_rfl) (fun _ _ _ h => h) (Or.inl ⟨by rfl, ?_⟩) (by assumption) ?_
      rotate_left
      · (intro w' hSw; (try dsimp only at hSw); go_simp; all_goals with_reducible rfl)
      try simp only [Act.put, List.setIfInBounds_toArray, List.set_cons_zero, List.set_cons_succ]
      refine wpAnyH_take' (i := 3) (v := ?_) rfl (by kernel_rfl) (by kernel_rfl) (by kernel_rfl) (fun _ _ _ h => h) (Or.inl ⟨by rfl, ?_⟩) (by assumption) ?_
      rotate_left
      · (intro w' hSw; (try dsimp only at hSw); go_simp; all_goals with_reducible rfl)
      try simp only [Act.put, List.setIfInBounds_toArray, List.set_cons_zero, List.set_cons_succ]
      refine wpAnyH_take' (i := 4) (v := ?_) rfl (by kernel_rfl) (by kernel_rfl) (by kernel_rfl) (fun _ _ _ h => h) (Or.inl ⟨by rfl, ?_⟩) (by assumption) ?_
      rotate_left
      · (intro w' hSw; (try dsimp only at hSw); go_simp; all_goals with_reducible rfl)
      try simp only [Act.put, List.setIfInBounds_toArray, List.set_cons_zero, List.set_cons_succ]
      refine wpAnyH_take' (i := 5) (v := ?_) rfl (by kernel_rfl) (by kernel_rfl) (by kernel_rfl) (fun _ _ _ h => h) (Or.inl ⟨by rfl, ?_⟩) (by assumption) ?_
      rotate_left
      · (intro w' hSw; (try dsimp only at hSw); go_simp; all_goals with_reducible rfl)
      try simp only [Act.put, List.setIfInBounds_toArray, List.set_cons_zero, List.set_cons_succ]
      refine wpAnyH_take' (i := 6) (v := ?_) rfl (by kernel_rfl) (by kernel_rfl) (by kernel_rfl) (fun _ _ _ h => h) (Or.inl ⟨by rfl, ?_⟩) (by assumption) ?_
      rotate_left
      · (intro w' hSw; (try dsimp only at hSw); go_simp; all_goals with_reducible rfl)
      try simp only [Act.put, List.setIfInBounds_toArray, List.set_cons_zero, List.set_cons_succ]
      refine wpAnyH_take' (i := 7) (v := ?_) rfl (by kernel_rfl) (by kernel_rfl) (by kernel_rfl) (fun _ _ _ h => h) (Or.inl ⟨by rfl, ?_⟩) (by assumption) ?_
      rotate_left
      · (intro w' hSw; (try dsimp only at hSw); go_simp; all_goals with_reducible rfl)
      try simp only [Act.put, List.setIfInBounds_toArray, List.set_cons_zero, List.set_cons_succ]
      refine wpAnyH_take' (i := 8) (v := ?_) rfl (by kernel_rfl) (by kernel_rfl) (by kernel_rfl) (fun _ _ _ h => h) (Or.inl ⟨by rfl, ?_⟩) (by assumption) ?_
      rotate_left
      · (intro w' hSw; (try dsimp only at hSw); go_simp; all_goals with_reducible rfl)
      try simp only [Act.put, List.setIfInBounds_toArray, List.set_cons_zero, List.set_cons_succ]
      refine wpAnyH_take' (i := 9) (v := ?_) rfl (by kernel_rfl) (by kernel_rfl) (by kernel_rfl) (fun _ _ _ h => h) (Or.inl ⟨by rfl, ?_⟩) (by assumption) ?_
      rotate_left
      · (intro w' hSw; (try dsimp only at hSw); go_simp; all_goals with_reducible rfl)
      try simp only [Act.put, List.setIfInBounds_toArray, List.set_cons_zero, List.set_cons_succ]
      refine wpAnyH_take' (i := 10) (v := ?_) rfl (by kernel_rfl) (by kernel_rfl) (by kernel_rfl) (fun _ _ _ h => h) (Or.inl ⟨by rfl, ?_⟩) (by assumption) ?_
      rotate_left
      · (intro w' hSw; (try dsimp only at hSw); go_simp; all_goals with_reducible rfl)
      try simp only [Act.put, List.setIfInBounds_toArray, List.set_cons_zero, List.set_cons_succ]
      refine wpAnyH_take' (i := 11) (v := ?_) rfl (by kernel_rfl) (by kernel_rfl) (by kernel_rfl) (fun _ _ _ h => h) (Or.inl ⟨by rfl, ?_⟩) (by assumption) ?_
      rotate_left
      · (intro w' hSw; (try dsimp only at hSw); go_simp; all_goals with_reducible rfl)
      try simp only [Act.put, List.setIfInBounds_toArray, List.set_cons_zero, List.set_cons_succ]
      refine wpAnyH_take' (i := 12) (v := ?_) rfl (by kernel_rfl) (by kernel_rfl) (by kernel_rfl) (fun _ _ _ h => h) (Or.inl ⟨by rfl, ?_⟩) (by assumption) ?_
      rotate_left
      · (intro w' hSw; (try dsimp only at hSw); go_simp; all_goals with_reducible rfl)
      try simp only [Act.put, List.setIfInBounds_toArray, List.set_cons_zero, List.set_cons_succ]
      refine wpAnyH_take' (i := 13) (v := ?_) rfl (by kernel_rfl) (by kernel_rfl) (by kernel_rfl) (fun _ _ _ h => h) (Or.inl ⟨by rfl, ?_⟩) (by assumption) ?_
      rotate_left
      · (intro w' hSw; (try dsimp only at hSw); go_simp; all_goals with_reducible rfl)
      try simp only [Act.put, List.setIfInBounds_toArray, List.set_cons_zero, List.set_cons_succ]
      refine wpAnyH_ready (rs := [1]) (by kernel_rfl) (by simp) ?_
      refine allReadyH_cons' rfl (fun Kn hKn => ?_) AllReadyH.nil
      go_simp
      have S6 := hid (S5.out.below (by go_grown : Below w5.heap.size w5 ((w5.alloc (.cells #[.int .i64 10, .int .i64 50, .int .i64 100] 3)).drew)))
      refine hKn.out _ _ (HC.out _ S6.out) (fun hHeldN => ?_)
      clear hKn Kn hHeld
      have hHeld := hHeldN
      clear hHeldN
      try simp only [Act.put, List.setIfInBounds_toArray, List.set_cons_zero, List.set_cons_succ]
      refine wpAnyH_ready (rs := [2]) (by kernel_rfl) (by simp) ?_
      refine allReadyH_cons' rfl (fun Kn hKn => ?_) AllReadyH.nil
      go_simp
      go_at_call 91
      refine (c_among g _ w5.heap.size 3 3 [10, 50, 100] _ (by exact S6.out.cur) (by omega) (by exact IntsAt.lit' w5 3 [10, 50, 100] rfl rfl) (by have := S5.out.cur.lt; omega) (by omega) (by omega)).mono ?_
      rintro e w7 ⟨⟨u, rfl, hu⟩, hc7, hg7⟩
      have S7 := hid (S6.out.step hc7 hg7)
      clear hc7 hg7 hu
      refine hKn.out _ _ (HC2.out _ S7.out) (fun hHeldN => ?_)
      clear hKn Kn hHeld
      have hHeld := hHeldN
      clear hHeldN
      try simp only [Act.put, List.setIfInBounds_toArray, List.set_cons_zero, List.set_cons_succ]
      refine wpAnyH_ready (rs := [14]) (by kernel_rfl) (by simp) ?_
      refine allReadyH_cons' rfl (fun Kn hKn => ?_) AllReadyH.nil
      go_simp
      go_at_call 78
      refine (s_l1Least _ _ _).mono ?_
      rintro e _ ⟨rfl, rfl⟩
      refine hKn.out _ _ (HC2.out _ S7.out) (fun hHeldN => ?_)
      clear hKn Kn hHeld
      have hHeld := hHeldN
      clear hHeldN
      try simp only [Act.put, List.setIfInBounds_toArray, List.set_cons_zero, List.set_cons_succ]
      refine wpAnyH_ready (rs := [15]) (by kernel_rfl) (by simp) ?_
      refine allReadyH_cons' rfl (fun Kn hKn => ?_) AllReadyH.nil
      go_simp
      go_at_call 78
      refine (s_l1Least _ _ _).mono ?_
      rintro e _ ⟨rfl, rfl⟩
      refine hKn.out _ _ (HC2.out _ S7.out) (fun hHeldN => ?_)
      clear hKn Kn hHeld
      have hHeld := hHeldN
      clear hHeldN
      try simp only [Act.put, List.setIfInBounds_toArray, List.set_cons_zero, List.set_cons_succ]
      refine wpAnyH_take' (i := 16) (v := ?_) rfl (by kernel_rfl) (by kernel_rfl) (by kernel_rfl) (fun _ _ _ h => h) (Or.inl ⟨by rfl, ?_⟩) (by assumption) ?_
      rotate_left
      · (intro w' hSw; (try dsimp only at hSw); go_simp; all_goals with_reducible rfl)
      try simp only [Act.put, List.setIfInBounds_toArray, List.set_cons_zero, List.set_cons_succ]
      refine wpAnyH_done (by kernel_rfl) ?_ _
      refine NoPanic.normal ?_
      clear hHeld
      generalize min u (min vi (IntKind.i64.wrap (1000 - vj))) = d at *
      clear HC HC2
      obtain ⟨m0, mc⟩ := S7.out.cells
      have mi := mc i hi
      have fi := S7.out.own.frozen (k := i)
      have hzz := S7.out.zz.2
      have hzp := S7.out.zp
      clear mc
      go_upto_region 7 with fail
      go_still_tail 11, (by kernel_rfl)
      change wpList _ _ _ _ _ w7.drew
      have S8 := hid (S7.out.below ((Below.refl _ _).drew))
      generalize w7.drew = w8 at *
      clear m0 mi fi hzz
      obtain ⟨m0, mc⟩ := S8.out.cells
      have mi := mc i hi
      have fi := S8.out.own.frozen (k := i)
      have hzz := S8.out.zz.2
      clear mc
      go_upto_region 8 with fail
      have S9 := hid (S8.out.set i (wrap64 (L[i]?.getD 0 - d)))
      generalize w8.setCell ⟨z, i, none⟩ (.int .i64 (wrap64 (L[i]?.getD 0 - d))) = w9 at *
      generalize L.set i (wrap64 (L[i]?.getD 0 - d)) = L9 at *
      clear m0 mi fi hzz S8 S7 S6 S5
      obtain ⟨m0, mc⟩ := S9.out.cells
      have mi := mc j hj
      have fi := S9.out.own.frozen (k := j)
      have hzz := S9.out.zz.2
      clear mc
      go_still_tail 11, (by kernel_rfl)
      change wpList _ _ _ _ _ w9.drew
      have S10 := hid (S9.out.below ((Below.refl _ _).drew))
      generalize w9.drew = w10 at *
      clear m0 mi fi hzz S9
      obtain ⟨m0, mc⟩ := S10.out.cells
      have mi := mc j hj
      have fi := S10.out.own.frozen (k := j)
      have hzz := S10.out.zz.2
      have hwk : IntKind.i64.wrap ((k : Int) - 1) = ((k - 1 : Nat) : Int) := by rw [IntWalk.i64_in _ (by omega)]; omega
      clear mc
      go_wp2
      go_roundg (k - 1)
      case rel => exact ⟨k - 1, _, by omega, rfl, rfl, hid ((S10.out.set j (wrap64 (L9[j]?.getD 0 + d))).le (by omega))⟩
      case measure => omega
    · obtain rfl : k = 0 := by omega
      have hk0i : ¬ (0 : Int) < ((0 : Nat) : Int) := by omega
      go_wp2_with fail
      refine (c_pick g _ 30 _ hS.out.cur (by omega) (by omega)).mono ?_
      rintro e w4 ⟨⟨v, rfl, hv0, hv1⟩, hc, hg⟩
      have S4 := hid (hS.out.step hc hg)
      clear hc hg hS
      obtain ⟨K4, hK4⟩ : ∃ K4, K + 2 + 6 * (T - 0) + 2 = K4 := ⟨_, rfl⟩
      rw [hK4] at S4
      have hK4b : K4 ≤ K + 80 := by omega
      clear hK4
      have hcap := oi_cap S4.out.own
      by_cases v0 : v = 0
      · subst v0
        go_upto_region 11 with fail
        obtain ⟨m0, mc⟩ := S4.out.cells
        refine wp_region_noPanic ?_
        refine wp_region_to (fun w' => w'.cell? ⟨pb, 0, none⟩ = some (.slice (some ⟨z, 0, none⟩) 24 c0) ∧ ∀ j, j < 24 → w'.cell? ⟨z, j, none⟩ = some (.int .i64 (L[j]?.getD 0))) 8 (by kernel_rfl) (by exact ⟨m0, mc⟩) (fun hHeld => ?_)
        refine AnyTo.take (i := 0) (v := ?_) rfl (by kernel_rfl) (by kernel_rfl) (by kernel_rfl) (by kernel_rfl) (fun _ _ _ h => h) (Or.inl ⟨by rfl, ?_⟩) (by assumption) ?_
        rotate_left
        · (intro w' hSw; (try dsimp only at hSw); go_simp; all_goals with_reducible rfl)
        try simp only [Act.put, List.setIfInBounds_toArray, List.set_cons_zero, List.set_cons_succ]
        refine AnyTo.take (i := 1) (v := ?_) rfl (by kernel_rfl) (by kernel_rfl) (by kernel_rfl) (by kernel_rfl) (fun _ _ _ h => h) (Or.inl ⟨by rfl, ?_⟩) (by assumption) ?_
        rotate_left
        · (intro w' hSw; (try dsimp only at hSw); go_simp; all_goals with_reducible rfl)
        try simp only [Act.put, List.setIfInBounds_toArray, List.set_cons_zero, List.set_cons_succ]
        refine AnyTo.take (i := 2) (v := ?_) rfl (by kernel_rfl) (by kernel_rfl) (by kernel_rfl) (by kernel_rfl) (fun _ _ _ h => h) (Or.inl ⟨by rfl, ?_⟩) (by assumption) ?_
        rotate_left
        · (intro w' hSw; (try dsimp only at hSw); go_simp; all_goals with_reducible rfl)
        try simp only [Act.put, List.setIfInBounds_toArray, List.set_cons_zero, List.set_cons_succ]
        refine AnyTo.one (i := 3) rfl (by kernel_rfl) (fun Kn hKn => ?_)
        go_simp
        go_at_call 92
        refine (c_pick g _ 24 _ (by exact (S4.out.below ((Below.refl _ _).drew)).cur) (by omega) (by omega)).mono ?_
        rintro e w5 ⟨⟨v, rfl, hv0, hv1⟩, hc, hg⟩
        have S5 := hid ((S4.out.below ((Below.refl _ _).drew)).step hc hg)
        obtain ⟨i, rfl⟩ : ∃ i : Nat, v = i := ⟨v.toNat, by omega⟩
        have hi : i < 24 := by omega
        have hii : (i : Int) < 24 := by omega
        clear hc hg hv0 hv1 hHeld
        refine hKn.out _ _ (S5.out.cells) (fun hHeld => ?_)
        clear hKn Kn
        try simp only [Act.put, List.setIfInBounds_toArray, List.set_cons_zero, List.set_cons_succ]
        have hcx := S5.out.own.cell (k := i) hi
        have hfx := S5.out.own.frozen (k := i)
        have hzx := S5.out.zz.2
        refine AnyTo.take (i := 4) (v := ?_) rfl (by kernel_rfl) (by kernel_rfl) (by kernel_rfl) (by kernel_rfl) (fun _ _ _ h => h) (Or.inl ⟨by rfl, ?_⟩) (by assumption) ?_
        rotate_left
        · (intro w' hSw; (try dsimp only at hSw); go_simp; all_goals with_reducible rfl)
        try simp only [Act.put, List.setIfInBounds_toArray, List.set_cons_zero, List.set_cons_succ]
        refine AnyTo.take (i := 5) (v := ?_) rfl (by kernel_rfl) (by kernel_rfl) (by kernel_rfl) (by kernel_rfl) (fun _ _ _ h => h) (Or.inl ⟨by rfl, ?_⟩) (by assumption) ?_
        rotate_left
        · (intro w' hSw; (try dsimp only at hSw); go_simp; all_goals with_reducible rfl)
        try simp only [Act.put, List.setIfInBounds_toArray, List.set_cons_zero, List.set_cons_succ]
        refine AnyTo.take (i := 6) (v := ?_) rfl (by kernel_rfl) (by kernel_rfl) (by kernel_rfl) (by kernel_rfl) (fun _ _ _ h => h) (Or.inl ⟨by rfl, ?_⟩) (by assumption) ?_
        rotate_left
        · (intro w' hSw; (try dsimp only at hSw); go_simp; all_goals with_reducible rfl)
        try simp only [Act.put, List.setIfInBounds_toArray, List.set_cons_zero, List.set_cons_succ]
        refine AnyTo.take (i := 7) (v := ?_) rfl (by kernel_rfl) (by kernel_rfl) (by kernel_rfl) (by kernel_rfl) (fun _ _ _ h => h) (Or.inl ⟨by rfl, ?_⟩) (by assumption) ?_
        rotate_left
        · (intro w' hSw; (try dsimp only at hSw); go_simp; all_goals with_reducible rfl)
        try simp only [Act.put, List.setIfInBounds_toArray, List.set_cons_zero, List.set_cons_succ]
        refine AnyTo.last rfl (by kernel_rfl) (by kernel_rfl) (fun Kn hKn => ?_)
        go_simp
        refine hKn.out _ _ ?_
        clear hKn Kn
        try simp only [Act.put, List.setIfInBounds_toArray, List.set_cons_zero, List.set_cons_succ]
        refine NoPanic.normal ?_
        clear hHeld m0 mc
        have S6 := hid ((S5.out.set i (IntKind.i64.wrap (L[i]?.getD 0 + 1))).pf)
        clear hcx hfx hzx
        generalize w5.setCell ⟨z, i, none⟩ (.int .i64 (IntKind.i64.wrap (L[i]?.getD 0 + 1))) = w6 at *
        go_upto_region 23 with fail
        have m0z : (w6).cell? ⟨pb, 0, none⟩ = some (.slice (some ⟨z, 0, none⟩) 24 c0) := by rw [cell_of_row _ _ _ _ _ (0, 0) S6.out.box]; rfl
        have n0z : (w6).cell? ⟨w.heap.size, 0, none⟩ = some (.slice none 0 0) := by rw [cell_of_row _ _ _ _ _ (0, 0) S6.out.res]; rfl
        have g0z := frozen_of_row _ _ 0 _ _ S6.out.res
        have hpz9 : pb < (w6).heap.size := (Array.getElem?_eq_some_iff.1 S6.out.box).1
        have hrz9 : w.heap.size < (w6).heap.size := (Array.getElem?_eq_some_iff.1 S6.out.res).1
        go_wp2
        have e7 := heap_setCell_same _ _ 0 _ _ (.slice (some ⟨z, 0, none⟩) 24 c0) S6.out.res
        have u0 := cell_of_row _ _ 0 _ _ (0, 0) e7
        simp only [List.setIfInBounds_toArray, List.set_cons_zero, List.getElem?_toArray, List.getElem?_cons_zero] at u0
        refine bodyPost_ret (v := .agg #[.slice (some ⟨z, 0, none⟩) 24 c0]) (by simp [results, Try.results86, go_sem, *]) rfl ⟨⟨_, _, _, rfl, by omega, (L.set i (IntKind.i64.wrap (L[i]?.getD 0 + 1))), S6.out.after, S6.out.fresh⟩, (S6.out.cur.set S6.out.gb).le (by omega), grown_set S6.out.gro (Nat.le_refl _)⟩
      · by_cases v1 : v = 1
        · subst v1
          have n1 : w4.cell? ⟨pb, 0, none⟩ = some (.slice (some ⟨z, 0, none⟩) 24 c0) := S4.out.cells.1
          have f1 := frozen_of_row w4 _ 0 _ _ S4.out.box
          have hpz := S4.out.pbz
          have S5 := hid (S4.out.cut (c' := c0 - 1))
          go_upto_region 23 with fail
          clear n1 f1 hpz
          generalize w4.setCell ⟨pb, 0, none⟩ (.slice (some ⟨z, 1, none⟩) 23 (c0 - 1)) = w5 at *
          have m0z : (w5).cell? ⟨pb, 0, none⟩ = some (.slice (some ⟨z, 1, none⟩) 23 (c0 - 1)) := by rw [cell_of_row _ _ _ _ _ (0, 0) S5.out.box]; rfl
          have n0z : (w5).cell? ⟨w.heap.size, 0, none⟩ = some (.slice none 0 0) := by rw [cell_of_row _ _ _ _ _ (0, 0) S5.out.res]; rfl
          have g0z := frozen_of_row _ _ 0 _ _ S5.out.res
          have hpz9 : pb < (w5).heap.size := (Array.getElem?_eq_some_iff.1 S5.out.box).1
          have hrz9 : w.heap.size < (w5).heap.size := (Array.getElem?_eq_some_iff.1 S5.out.res).1
          go_wp2
          have e7 := heap_setCell_same _ _ 0 _ _ (.slice (some ⟨z, 1, none⟩) 23 (c0 - 1)) S5.out.res
          have u0 := cell_of_row _ _ 0 _ _ (0, 0) e7
          simp only [List.setIfInBounds_toArray, List.set_cons_zero, List.getElem?_toArray, List.getElem?_cons_zero] at u0
          refine bodyPost_ret (v := .agg #[.slice (some ⟨z, 1, none⟩) 23 (c0 - 1)]) (by simp [results, Try.results86, go_sem, *]) rfl ⟨⟨_, _, _, rfl, by omega, (L.drop 1), S5.out.after, S5.out.fresh⟩, (S5.out.cur.set S5.out.gb).le (by omega), grown_set S5.out.gro (Nat.le_refl _)⟩
        · by_cases v2 : v = 2
          · subst v2
            go_wp2_with fail
            refine (s_FlatProfile _).mono ?_
            rintro e w5 ⟨a5, c5, rfl, ho, hb⟩
            obtain ⟨z5, rfl, hz51, hz52⟩ := own_some ho (by decide)
            have S5 := hid (S4.out.below hb)
            have S6 := hid (S4.out.swap hb ho)
            have n1 : w5.cell? ⟨pb, 0, none⟩ = some (.slice (some ⟨z, 0, none⟩) 24 c0) := S5.out.cells.1
            have f1 := frozen_of_row w5 _ 0 _ _ S5.out.box
            have hpz := S5.out.pbz
            clear ho hb hz51 hz52
            go_upto_region 16 with fail
            clear n1 f1 hpz S4 S5
            generalize w5.setCell ⟨pb, 0, none⟩ (.slice (some ⟨z5, 0, none⟩) 24 c5) = w6 at *
            obtain ⟨m0, mc⟩ := S6.out.cells
            have mi := mc 0 (by omega)
            have fi := S6.out.own.frozen (k := 0)
            have hzz := S6.out.zz.2
            have hpz := S6.out.pbz
            have fp := frozen_of_row w6 _ 0 _ _ S6.out.box
            clear mc
            go_upto_region 17 with fail
            have S7 := hid (S6.out.set 0 (-1))
            clear m0 mi fi hzz hpz fp S6
            generalize w6.setCell ⟨z5, 0, none⟩ (.int .i64 (-1)) = w7 at *
            obtain ⟨m0, mc⟩ := S7.out.cells
            have mi := mc 1 (by omega)
            have fi := S7.out.own.frozen (k := 1)
            have hzz := S7.out.zz.2
            have hpz := S7.out.pbz
            have fp := frozen_of_row w7 _ 0 _ _ S7.out.box
            clear mc
            go_upto_region 23 with fail
            have S8 := hid ((S7.out.set 1 201).pf)
            clear m0 mi fi hzz hpz fp S7
            generalize w7.setCell ⟨z5, 1, none⟩ (.int .i64 201) = w8 at *
            have m0z : (w8).cell? ⟨pb, 0, none⟩ = some (.slice (some ⟨z5, 0, none⟩) 24 c5) := by rw [cell_of_row _ _ _ _ _ (0, 0) S8.out.box]; rfl
            have n0z : (w8).cell? ⟨w.heap.size, 0, none⟩ = some (.slice none 0 0) := by rw [cell_of_row _ _ _ _ _ (0, 0) S8.out.res]; rfl
            have g0z := frozen_of_row _ _ 0 _ _ S8.out.res
            have hpz9 : pb < (w8).heap.size := (Array.getElem?_eq_some_iff.1 S8.out.box).1
            have hrz9 : w.heap.size < (w8).heap.size := (Array.getElem?_eq_some_iff.1 S8.out.res).1
            go_wp2
            have e7 := heap_setCell_same _ _ 0 _ _ (.slice (some ⟨z5, 0, none⟩) 24 c5) S8.out.res
            have u0 := cell_of_row _ _ 0 _ _ (0, 0) e7
            simp only [List.setIfInBounds_toArray, List.set_cons_zero, List.getElem?_toArray, List.getElem?_cons_zero] at u0
            refine bodyPost_ret (v := .agg #[.slice (some ⟨z5, 0, none⟩) 24 c5]) (by simp [results, Try.results86, go_sem, *]) rfl ⟨⟨_, _, _, rfl, by omega, _, S8.out.after, S8.out.fresh⟩, (S8.out.cur.set S8.out.gb).le (by omega), grown_set S8.out.gro (Nat.le_refl _)⟩
          · by_cases v3 : v = 3
            · subst v3
              obtain ⟨i0, hi0, hy0, hy1, hy2⟩ := info_parts Try.infoInt
              have HI := hid hi0
              have HZ := hid hy0
              have HZ1 := hid hy1
              have HZ2 := hid hy2
              clear hi0 hy0 hy1 hy2
              go_wp2_with (at_make; refine wpList_make_full _ rfl _ _ 22 rfl w4.heap.size 3 i0 (.int .i64 0) 1 Try.underlying22 HI.out HZ.out HZ1.out _ _ _ _ 24 rfl rfl rfl rfl ?b2 ?b3 ?b4 ?_)
              case b2 => rw [HZ2.out]; omega
              case b3 => unfold maxLen; omega
              case b4 => exact Nat.le_refl _
              intro w5 hown hgrow
              have hb := below_of_grown hgrow (Nat.le_refl _) (fun k hk => by simp at hk)
              have S5 := hid (S4.out.below hb)
              have S6 := hid (S4.out.swap hb (OwnI.made hown))
              generalize w4.heap.size = z5 at *
              have n1 : w5.cell? ⟨pb, 0, none⟩ = some (.slice (some ⟨z, 0, none⟩) 24 c0) := S5.out.cells.1
              have f1 := frozen_of_row w5 _ 0 _ _ S5.out.box
              have hpz := S5.out.pbz
              clear hown hgrow hb
              go_upto_region 20 with fail
              clear n1 f1 hpz S4 S5
              generalize w5.setCell ⟨pb, 0, none⟩ (.slice (some ⟨z5, 0, none⟩) 24 24) = w6 at *
              obtain ⟨m0, mc⟩ := S6.out.cells
              have mi := mc 3 (by omega)
              have fi := S6.out.own.frozen (k := 3)
              have hzz := S6.out.zz.2
              have hpz := S6.out.pbz
              have fp := frozen_of_row w6 _ 0 _ _ S6.out.box
              clear mc
              go_upto_region 21 with fail
              have S7 := hid (S6.out.set 3 1000)
              clear m0 mi fi hzz hpz fp S6
              generalize w6.setCell ⟨z5, 3, none⟩ (.int .i64 1000) = w7 at *
              generalize (List.replicate 24 (0 : Int)).set 3 1000 = L7 at *
              obtain ⟨m0, mc⟩ := S7.out.cells
              refine wp_region_noPanic ?_
              refine wp_region_to (fun w' => w'.cell? ⟨pb, 0, none⟩ = some (.slice (some ⟨z5, 0, none⟩) 24 24)) 6 (by kernel_rfl) (by exact m0) (fun hHeld => ?_)
              refine AnyTo.take (i := 0) (v := ?_) rfl (by kernel_rfl) (by kernel_rfl) (by kernel_rfl) (by kernel_rfl) (fun _ _ _ h => h) (Or.inl ⟨by rfl, ?_⟩) (by assumption) ?_
              rotate_left
              · (intro w' hSw; (try dsimp only at hSw); go_simp; all_goals with_reducible rfl)
              try simp only [Act.put, List.setIfInBounds_toArray, List.set_cons_zero, List.set_cons_succ]
              refine AnyTo.take (i := 1) (v := ?_) rfl (by kernel_rfl) (by kernel_rfl) (by kernel_rfl) (by kernel_rfl) (fun _ _ _ h => h) (Or.inl ⟨by rfl, ?_⟩) (by assumption) ?_
              rotate_left
              · (intro w' hSw; (try dsimp only at hSw); go_simp; all_goals with_reducible rfl)
              try simp only [Act.put, List.setIfInBounds_toArray, List.set_cons_zero, List.set_cons_succ]
              refine AnyTo.take (i := 2) (v := ?_) rfl (by kernel_rfl) (by kernel_rfl) (by kernel_rfl) (by kernel_rfl) (fun _ _ _ h => h) (Or.inl ⟨by rfl, ?_⟩) (by assumption) ?_
              rotate_left
              · (intro w' hSw; (try dsimp only at hSw); go_simp; all_goals with_reducible rfl)
              try simp only [Act.put, List.setIfInBounds_toArray, List.set_cons_zero, List.set_cons_succ]
              refine AnyTo.one (i := 3) rfl (by kernel_rfl) (fun Kn hKn => ?_)
              go_simp
              go_at_call 92
              refine (c_pick g _ 2 _ (by exact (S7.out.below ((Below.refl _ _).drew)).cur) (by omega) (by omega)).mono ?_
              rintro e w8 ⟨⟨v, rfl, hv0, hv1⟩, hc, hg⟩
              have S8 := hid ((S7.out.below ((Below.refl _ _).drew)).step hc hg)
              clear hc hg hv0 hv1 hHeld
              refine hKn.out _ _ (S8.out.cells.1) (fun hHeld => ?_)
              clear hKn Kn
              try simp only [Act.put, List.setIfInBounds_toArray, List.set_cons_zero, List.set_cons_succ]
              have hcx := S8.out.own.cell (k := 4) (by decide)
              have hfx := S8.out.own.frozen (k := 4)
              have hzx := S8.out.zz.2
              refine AnyTo.take (i := 4) (v := ?_) rfl (by kernel_rfl) (by kernel_rfl) (by kernel_rfl) (by kernel_rfl) (fun _ _ _ h => h) (Or.inl ⟨by rfl, ?_⟩) (by assumption) ?_
              rotate_left
              · (intro w' hSw; (try dsimp only at hSw); go_simp; all_goals with_reducible rfl)
              try simp only [Act.put, List.setIfInBounds_toArray, List.set_cons_zero, List.set_cons_succ]
              refine AnyTo.take (i := 5) (v := ?_) rfl (by kernel_rfl) (by kernel_rfl) (by kernel_rfl) (by kernel_rfl) (fun _ _ _ h => h) (Or.inl ⟨by rfl, ?_⟩) (by assumption) ?_
              rotate_left
              · (intro w' hSw; (try dsimp only at hSw); go_simp; all_goals with_reducible rfl)
              try simp only [Act.put, List.setIfInBounds_toArray, List.set_cons_zero, List.set_cons_succ]
              refine AnyTo.last rfl (by kernel_rfl) (by kernel_rfl) (fun Kn hKn => ?_)
              go_simp
              refine hKn.out _ _ ?_
              clear hKn Kn
              try simp only [Act.put, List.setIfInBounds_toArray, List.set_cons_zero, List.set_cons_succ]
              refine NoPanic.normal ?_
              clear hHeld m0 mc
              have S9 := hid (S8.out.set 4 (IntKind.i64.wrap (1000 + v)))
              clear hcx hfx hzx
              go_upto_region 22 with fail
              generalize w8.setCell ⟨z5, 4, none⟩ (.int .i64 (IntKind.i64.wrap (1000 + v))) = w9 at *
              generalize L7.set 4 (IntKind.i64.wrap (1000 + v)) = L9 at *
              obtain ⟨m0, mc⟩ := S9.out.cells
              have c3 := mc 3 (by decide)
              have c4 := mc 4 (by decide)
              clear mc
              go_still_tail 13, (by kernel_rfl)
              change wpList _ _ _ _ _ w9.drew
              have S10 := hid (S9.out.below ((Below.refl _ _).drew))
              generalize w9.drew = w10 at *
              clear m0 c3 c4
              obtain ⟨m0, mc⟩ := S10.out.cells
              have mi := mc 5 (by omega)
              have fi := S10.out.own.frozen (k := 5)
              have hzz := S10.out.zz.2
              have hpz := S10.out.pbz
              have fp := frozen_of_row w10 _ 0 _ _ S10.out.box
              clear mc
              go_upto_region 23 with fail
              have S11 := hid ((S10.out.set 5 (wrap64 (wrap64 (2400 - L9[3]?.getD 0) - L9[4]?.getD 0))).pf)
              clear m0 mi fi hzz hpz fp
              generalize w10.setCell ⟨z5, 5, none⟩ (.int .i64 (wrap64 (wrap64 (2400 - L9[3]?.getD 0) - L9[4]?.getD 0))) = w11 at *
              have m0z : (w11).cell? ⟨pb, 0, none⟩ = some (.slice (some ⟨z5, 0, none⟩) 24 24) := by rw [cell_of_row _ _ _ _ _ (0, 0) S11.out.box]; rfl
              have n0z : (w11).cell? ⟨w.heap.size, 0, none⟩ = some (.slice none 0 0) := by rw [cell_of_row _ _ _ _ _ (0, 0) S11.out.res]; rfl
              have g0z := frozen_of_row _ _ 0 _ _ S11.out.res
              have hpz9 : pb < (w11).heap.size := (Array.getElem?_eq_some_iff.1 S11.out.box).1
              have hrz9 : w.heap.size < (w11).heap.size := (Array.getElem?_eq_some_iff.1 S11.out.res).1
              go_wp2
              have e7 := heap_setCell_same _ _ 0 _ _ (.slice (some ⟨z5, 0, none⟩) 24 24) S11.out.res
              have u0 := cell_of_row _ _ 0 _ _ (0, 0) e7
              simp only [List.setIfInBounds_toArray, List.set_cons_zero, List.getElem?_toArray, List.getElem?_cons_zero] at u0
              refine bodyPost_ret (v := .agg #[.slice (some ⟨z5, 0, none⟩) 24 24]) (by simp [results, Try.results86, go_sem, *]) rfl ⟨⟨_, _, _, rfl, by omega, _, S11.out.after, S11.out.fresh⟩, (S11.out.cur.set S11.out.gb).le (by omega), grown_set S11.out.gro (Nat.le_refl _)⟩
            · have S5 := hid S4.out.pf
              go_upto_region 23 with fail
              have m0z : (w4).cell? ⟨pb, 0, none⟩ = some (.slice (some ⟨z, 0, none⟩) 24 c0) := by rw [cell_of_row _ _ _ _ _ (0, 0) S5.out.box]; rfl
              have n0z : (w4).cell? ⟨w.heap.size, 0, none⟩ = some (.slice none 0 0) := by rw [cell_of_row _ _ _ _ _ (0, 0) S5.out.res]; rfl
              have g0z := frozen_of_row _ _ 0 _ _ S5.out.res
              have hpz9 : pb < (w4).heap.size := (Array.getElem?_eq_some_iff.1 S5.out.box).1
              have hrz9 : w.heap.size < (w4).heap.size := (Array.getElem?_eq_some_iff.1 S5.out.res).1
              go_wp2
              have e7 := heap_setCell_same _ _ 0 _ _ (.slice (some ⟨z, 0, none⟩) 24 c0) S5.out.res
              have u0 := cell_of_row _ _ 0 _ _ (0, 0) e7
              simp only [List.setIfInBounds_toArray, List.set_cons_zero, List.getElem?_toArray, List.getElem?_cons_zero] at u0
              refine bodyPost_ret (v := .agg #[.slice (some ⟨z, 0, none⟩) 24 c0]) (by simp [results, Try.results86, go_sem, *]) rfl ⟨⟨_, _, _, rfl, by omega, L, S5.out.after, S5.out.fresh⟩, (S5.out.cur.set S5.out.gb).le (by omega), grown_set S5.out.gro (Nat.le_refl _)⟩

end Go.Proofs.Ytpmffboojkfpdaa

/-
  Draws out of a list that is cut short by a draw.
-/
set_option linter.unusedVariables false
set_option linter.unusedSimpArgs false
namespace Go.Proofs.Ytpmffboojkfpdaa
open Go.RowKit

theorem ints_take {w : World} {a : Option Addr} {n k : Nat} {l : List Int} (h : IntsAt w a n l) (hk : k ≤ n) : IntsAt w a k (l.take k) :=
  ⟨by rw [List.length_take, h.1]; omega, fun j hj => by
    obtain ⟨b, o, h1, h2, h3⟩ := h.2 j (by omega)
    exact ⟨b, o, h1, h2, by rw [h3, List.getElem?_take_of_lt hj]⟩⟩

set_option maxHeartbeats 4000000 in
theorem c_hour6 (g K : Nat) (w : World) (h : Cur w g K) (hK : K ≤ 100000000000) :
    Calls Try.prog 87 #[.pointer (some ⟨g, 0, none⟩)] w fun e w' => (∃ v : Int, e = .returned (.int .i64 v)) ∧ Cur w' g (K + 4) ∧ w.grownBy w' (some g) := by
  have H := hid h
  have hgz := h.lt
  clear h
  go_enter Try.func87, Try.ntmps87
  go_wp2_with fail
  refine (c_pick g K 24 _ (H.out.below (by go_grown)) (by omega) (by omega)).mono ?_
  rintro e w5 ⟨⟨v, rfl, hv0, hv1⟩, hc5, hg5⟩
  have I0 : IntsAt (w.alloc _) (some ⟨w.heap.size, 0, none⟩) 8 [0, 1, 7, 12, 22, 23, -1, 24] := IntsAt.lit' w 3 [0, 1, 7, 12, 22, 23, -1, 24] rfl rfl
  have I5 := hid (I0.kept hg5 (fun b o e e2 => by simp only [Option.some.injEq, Addr.mk.injEq] at e; have := Option.some.inj e2; omega))
  have W5 := hid (show Cur w5 g (K + 2) ∧ w.grownBy w5 (some g) from ⟨hc5, grownBy_trans (grown_of_below (by go_grown) _) hg5⟩)
  obtain ⟨k, hk⟩ : ∃ k : Nat, 6 + v.tdiv 11 = (k : Int) := ⟨(6 + v.tdiv 11).toNat, by rw [Int.tdiv_eq_ediv_of_nonneg hv0]; omega⟩
  have hk2 : 6 ≤ k ∧ k ≤ 8 := by rw [Int.tdiv_eq_ediv_of_nonneg hv0] at hk; omega
  have hw1 : IntKind.i64.wrap (v.tdiv 11) = v.tdiv 11 := IntWalk.i64_in _ (by rw [Int.tdiv_eq_ediv_of_nonneg hv0]; omega)
  have hw2 : IntKind.i64.wrap (6 + v.tdiv 11) = (k : Int) := by rw [hk]; exact IntWalk.i64_in _ (by omega)
  have hk3 : (k : Int) ≤ 8 := by omega
  clear hc5 hg5 hv0 hv1 hk I0
  go_wp2_with fail
  refine (c_among g _ w.heap.size k _ ([0, 1, 7, 12, 22, 23, -1, 24].take k) _ W5.out.1 (by omega) (ints_take I5.out (by omega)) (by omega) (by omega) (by omega)).mono ?_
  rintro e w6 ⟨⟨u, rfl, hu⟩, hc6, hg6⟩
  have W6 := hid (show Cur w6 g (K + 4) ∧ w.grownBy w6 (some g) from ⟨hc6, grownBy_trans W5.out.2 hg6⟩)
  clear hc6 hg6 hu
  go_wp2
  go_ret
  exact ⟨⟨_, rfl⟩, W6.out.1, W6.out.2⟩
set_option maxHeartbeats 4000000 in
theorem c_base (g K : Nat) (w : World) (h : Cur w g K) (hK : K ≤ 100000000000) :
    Calls Try.prog 94 #[.pointer (some ⟨g, 0, none⟩)] w fun e w' => (∃ v : Int, e = .returned (.int .i64 v)) ∧ Cur w' g (K + 4) ∧ w.grownBy w' (some g) := by
  have H := hid h
  have hgz := h.lt
  clear h
  go_enter Try.func94, Try.ntmps94
  go_wp2_with fail
  refine (c_pick g K 24 _ (H.out.below (by go_grown)) (by omega) (by omega)).mono ?_
  rintro e w5 ⟨⟨v, rfl, hv0, hv1⟩, hc5, hg5⟩
  have I0 : IntsAt (w.alloc _) (some ⟨w.heap.size, 0, none⟩) 7 [0, 1, 50, 333, 100000, -1, 100001] := IntsAt.lit' w 3 [0, 1, 50, 333, 100000, -1, 100001] rfl rfl
  have I5 := hid (I0.kept hg5 (fun b o e e2 => by simp only [Option.some.injEq, Addr.mk.injEq] at e; have := Option.some.inj e2; omega))
  have W5 := hid (show Cur w5 g (K + 2) ∧ w.grownBy w5 (some g) from ⟨hc5, grownBy_trans (grown_of_below (by go_grown) _) hg5⟩)
  obtain ⟨k, hk⟩ : ∃ k : Nat, 5 + v.tdiv 11 = (k : Int) := ⟨(5 + v.tdiv 11).toNat, by rw [Int.tdiv_eq_ediv_of_nonneg hv0]; omega⟩
  have hk2 : 5 ≤ k ∧ k ≤ 7 := by rw [Int.tdiv_eq_ediv_of_nonneg hv0] at hk; omega
  have hw1 : IntKind.i64.wrap (v.tdiv 11) = v.tdiv 11 := IntWalk.i64_in _ (by rw [Int.tdiv_eq_ediv_of_nonneg hv0]; omega)
  have hw2 : IntKind.i64.wrap (5 + v.tdiv 11) = (k : Int) := by rw [hk]; exact IntWalk.i64_in _ (by omega)
  have hk3 : (k : Int) ≤ 7 := by omega
  clear hc5 hg5 hv0 hv1 hk I0
  go_wp2_with fail
  refine (c_among g _ w.heap.size k _ ([0, 1, 50, 333, 100000, -1, 100001].take k) _ W5.out.1 (by omega) (ints_take I5.out (by omega)) (by omega) (by omega) (by omega)).mono ?_
  rintro e w6 ⟨⟨u, rfl, hu⟩, hc6, hg6⟩
  have W6 := hid (show Cur w6 g (K + 4) ∧ w.grownBy w6 (some g) from ⟨hc6, grownBy_trans W5.out.2 hg6⟩)
  clear hc6 hg6 hu
  go_wp2
  go_ret
  exact ⟨⟨_, rfl⟩, W6.out.1, W6.out.2⟩

end Go.Proofs.Ytpmffboojkfpdaa

/-
  From a walk to a law's row: every argument reads as it did, because nothing that was there has turned.
-/
set_option linter.unusedVariables false
set_option linter.unusedSimpArgs false
namespace Go.Proofs.Ytpmffboojkfpdaa
open Go.ChangeShapes Go.WideShapes Go.ChangeAt Go.RowKit Go.Joins

theorem Try.own : ownKnob Try.prog.godebug = none := by kernel_rfl
theorem Try.laidOut : laidOutB Try.prog = true := by kernel_rfl

theorem Try.cellsInt : Try.prog.cellsOf 3 = 1 := by kernel_rfl

theorem trodAll_below {H : Type} {enc : TypeId × Value → H} {W W' : World} (hb : Below W.heap.size W W') : ∀ (ts : List TypeId) (vs : List Value) (ds : List (DataW H)) (ps : List MemPlace),
    (∀ t ∈ ts, Try.prog.readableRec t = true ∧ t < Try.prog.types.size) → DataW.TrodAll enc Try.prog W 0 (fun _ => true) true ts vs ds ps → (∀ x ∈ ps, x.block < W.heap.size) →
    DataW.TrodAll enc Try.prog W' 0 (fun b => decide (b < W.heap.size)) true ts vs ds ps
  | [], vs, ds, ps, _, h, _ => by
    obtain ⟨rfl, rfl, rfl⟩ := trodAll_nil h
    exact trodAll_mk0
  | t :: ts, vs, ds, ps, hg, h, hl => by
    obtain ⟨v, vs', d, ds', p, q, rfl, rfl, rfl, h1, h2⟩ := trodAll_cons h
    have hg1 := hg t (by simp)
    exact trodAll_cons_mk (Below.trod Try.laidOut hg1.1 hg1.2 h1 hb (fun x hx => hl x (by simp [hx]))) (trodAll_below hb ts vs' ds' q (fun t ht => hg t (by simp [ht])) h2 (fun x hx => hl x (by simp [hx])))

set_option maxRecDepth 100000 in
theorem law_post {H : Type} {enc : TypeId × Value → H} {f : Func} {s : ChangeSpec} (hvars : s.vars = []) (hres : f.resultTypes = #[4]) (hgood : (f.params.toList.all fun t => Try.prog.readableRec t && decide (t < Try.prog.types.size)) = true)
    {W W' : World} {args : Array Value} {ds gs : List (DataW H)} {before : List MemPlace} (hW : DataW.Whole enc Try.prog f.params.toList s.vars false W args.toList ds gs before)
    (h1 : (s.fn H (ds ++ gs)).results = [.lit (.bool true)]) (h2 : (s.fn H (ds ++ gs)).args = ds) (h3 : (s.fn H (ds ++ gs)).vars = []) (hb : Below W.heap.size W W') :
    s.post enc Try.prog f false true false false W args (.bool true) W' := by
  have hW' := hW
  obtain ⟨p, q, hA, hV, rfl, hfz, hnd⟩ := hW
  have hlt : ∀ x ∈ p, x.block < W.heap.size := fun x hx => hW'.lt x (by simp [hx])
  refine ⟨ds, gs, p ++ q, [], p, [], hW', ?_, ?_, ?_, hb.frame _, fun h => by cases h⟩
  · rw [h1, hres]
    exact trodAll_mk1 (shut_bool Try.underlying4 true)
  · rw [h2]
    exact trodAll_below hb _ _ _ _ (fun t ht => by have := List.all_eq_true.1 hgood t ht; simpa using this) hA hlt
  · rw [h3, hvars]; rfl

set_option maxRecDepth 100000 in
theorem open_ints_at {H : Type} {enc : TypeId × Value → H} {W : World} {base : Nat} {v : Value} {d : DataW H} {p : List MemPlace}
    (hv : Value.okWide Try.prog W .any base 22 v) (h : DataW.Trod enc Try.prog W 0 (fun _ => true) true 22 v d p) :
    ∃ a n c l, v = .slice a n c ∧ IntsAt W a n l ∧ ∀ x ∈ l, -9223372036854775808 ≤ x ∧ x ≤ 9223372036854775807 := by
  obtain ⟨a0, len, cap, rfl⟩ := okWide_slice Try.underlying22 hv
  obtain ⟨fuel, hf⟩ := h
  rcases open_ints Try.underlying22 Try.underlying3 Try.cellsInt hf with ⟨hcs, hx⟩ | ⟨a, len', cap', zs, hcs, _, hl, hm, hz, hx, hcell, hwz⟩
  · simp [Value.cells] at hcs
    obtain ⟨rfl, rfl, rfl⟩ := hcs
    exact ⟨_, _, _, [], rfl, IntsAt.nil _ _, fun x hx => by cases hx⟩
  · simp [Value.cells] at hcs
    obtain ⟨rfl, rfl, rfl⟩ := hcs
    simp at hz
    refine ⟨_, _, _, zs.take len, rfl, ⟨by rw [List.length_take]; omega, ?_⟩, ?_⟩
    · intro k hk
      have h0 := hcell 0 (by omega)
      have hb := World.block_lt_of_cell? W _ (hcell 0 (by omega))
      have hsp : a.spot = none := by
        simp only [Addr.add, if_pos] at h0
        unfold World.cell? at h0
        split at h0
        · split at h0
          · cases h0
          · rename_i hs
            cases hq : a.spot with
            | none => rfl
            | some _ => rw [hq] at hs; exact absurd rfl hs
        · cases h0
      obtain ⟨b, off, sp⟩ := a
      simp only at hsp
      subst hsp
      refine ⟨b, off, rfl, by simpa [addr_add] using hb, ?_⟩
      have hk' := hcell k (by omega)
      rw [addr_add] at hk'
      rw [hk', List.getElem?_take, if_pos hk]
      rfl
    · intro x hx
      have := hwz x (List.mem_of_mem_take hx)
      simpa [Lit.wf, IntKind.min, IntKind.max, IntKind.signed, IntKind.bits] using this

end Go.Proofs.Ytpmffboojkfpdaa

/-
  A code of bytes as an argument.
-/
set_option linter.unusedVariables false
set_option linter.unusedSimpArgs false
namespace Go.Proofs.Ytpmffboojkfpdaa
open Go.ChangeShapes Go.WideShapes Go.ChangeAt Go.RowKit Go.Joins

theorem Try.cellsByte : Try.prog.cellsOf 5 = 1 := by kernel_rfl

set_option maxRecDepth 100000 in
theorem open_bytes {H : Type} {enc : TypeId × Value → H} {W : World} {base : Nat} {v : Value} {d : DataW H} {p : List MemPlace}
    (hv : Value.okWide Try.prog W .any base 39 v) (h : DataW.Trod enc Try.prog W 0 (fun _ => true) true 39 v d p) :
    ∃ a n c, v = .slice a n c ∧ BytesAt W a n := by
  obtain ⟨a0, len, cap, rfl⟩ := okWide_slice Try.underlying39 hv
  obtain ⟨fuel, hf⟩ := h
  rcases open_ints Try.underlying39 Try.underlying5 Try.cellsByte hf with ⟨hcs, hx⟩ | ⟨a, len', cap', zs, hcs, _, hl, hm, hz, hx, hcell, hwz⟩
  · simp [Value.cells] at hcs
    obtain ⟨rfl, rfl, rfl⟩ := hcs
    exact ⟨_, _, _, rfl, by omega, fun i hi => by omega⟩
  · simp [Value.cells] at hcs
    obtain ⟨rfl, rfl, rfl⟩ := hcs
    simp at hz
    refine ⟨_, _, _, rfl, by have := hm; unfold maxLen at *; omega, ?_⟩
    intro k hk
    have h0 := hcell 0 (by omega)
    have hb := World.block_lt_of_cell? W _ (hcell 0 (by omega))
    have hsp : a.spot = none := by
      simp only [Addr.add, if_pos] at h0
      unfold World.cell? at h0
      split at h0
      · split at h0
        · cases h0
        · rename_i hs
          cases hq : a.spot with
          | none => rfl
          | some _ => rw [hq] at hs; exact absurd rfl hs
      · cases h0
    obtain ⟨b, off, sp⟩ := a
    simp only at hsp
    subst hsp
    have hk' := hcell k (by omega)
    rw [addr_add] at hk'
    have hw := hwz _ (getD_mem zs k (by omega))
    have hw2 : 0 ≤ zs[k]?.getD 0 ∧ zs[k]?.getD 0 < 256 := by
      have : 0 ≤ zs[k]?.getD 0 ∧ zs[k]?.getD 0 ≤ 255 := by simpa [Lit.wf, IntKind.min, IntKind.max, IntKind.signed, IntKind.bits] using hw
      omega
    exact ⟨b, off, _, rfl, by simpa [addr_add] using hb, hk', hw2.1, hw2.2⟩

end Go.Proofs.Ytpmffboojkfpdaa

