/-
  Texts of this claim, joined: ProfQ, TwoI, LawG.
-/
import Derived.Test.YtpmffboojkfpdaaPr1
import Derived.Test.YtpmffboojkfpdaaPr3
import Derived.Test.YtpmffboojkfpdaaPr4
import Derived.Test.YtpmffboojkfpdaaPr6
/-
  What the answers on profiles say of one another (plain).
-/
set_option linter.unusedVariables false
set_option linter.unusedSimpArgs false
namespace Go.Proofs.Ytpmffboojkfpdaa
open Go.RowKit

/-- The sum of g 0 .. g (n - 1). -/
def gsum (g : Nat → Int) (n : Nat) : Int := ((List.range n).map g).sum
theorem gsum_succ (g : Nat → Int) (n : Nat) : gsum g (n + 1) = gsum g n + g n := by simp [gsum, List.range_succ]
theorem gsum_shift (g : Nat → Int) : ∀ n, gsum (fun i => g (i + 1)) n = gsum g n + g n - g 0
  | 0 => by simp [gsum]
  | n + 1 => by rw [gsum_succ, gsum_succ, gsum_shift g n]; omega
theorem gsum_congr {f g : Nat → Int} {n : Nat} (h : ∀ i, i < n → f i = g i) : gsum f n = gsum g n := by
  unfold gsum
  congr 1
  apply List.map_congr_left
  intro i hi
  exact h i (List.mem_range.1 hi)
theorem gsum_list (l : List Int) : gsum (fun i => el l i) l.length = l.sum := by
  unfold gsum
  congr 1
  apply List.ext_getElem
  · simp
  · intro i h1 h2
    simp [el, h2]
theorem gsum_rot {l : List Int} (hl : l.length = 24) : ∀ k, gsum (fun f => el l ((f + k) % 24)) 24 = l.sum
  | 0 => by
    rw [← gsum_list l, hl]
    exact gsum_congr (fun i hi => by rw [Nat.add_zero, Nat.mod_eq_of_lt hi])
  | k + 1 => by
    have e := gsum_shift (fun f => el l ((f + k) % 24)) 24
    have e2 : gsum (fun f => el l ((f + (k + 1)) % 24)) 24 = gsum (fun i => (fun f => el l ((f + k) % 24)) (i + 1)) 24 := gsum_congr (fun i hi => by
      show el l ((i + (k + 1)) % 24) = el l ((i + 1 + k) % 24)
      rw [show i + (k + 1) = i + 1 + k by omega])
    rw [e2, e, gsum_rot hl k]
    have e3 : (24 + k) % 24 = (0 + k) % 24 := by omega
    simp only [e3]
    omega
theorem gsum_le {g : Nat → Int} {B : Int} : ∀ {n : Nat}, (∀ i, i < n → B ≤ g i) → B * (n : Int) ≤ gsum g n
  | 0, _ => by simp [gsum]
  | n + 1, h => by
    have ih := gsum_le (g := g) (B := B) (n := n) (fun i hi => h i (by omega))
    have := h n (by omega)
    rw [gsum_succ]
    have e : B * ((n + 1 : Nat) : Int) = B * (n : Int) + B := by rw [Int.natCast_add, Int.mul_add]; simp
    omega
theorem hrs_sum {l : List Int} (hl : l.length = 24) (hs : l.sum = 2400) : ∀ k : Nat, gsum (fun f => hrs l f k) 24 = 2400 * (k : Int)
  | 0 => by simp [gsum, hrs]; decide
  | k + 1 => by
    have e : gsum (fun f => hrs l f (k + 1)) 24 = gsum (fun f => hrs l f k) 24 + gsum (fun f => el l ((f + k) % 24)) 24 := by
      have : ∀ n, gsum (fun f => hrs l f (k + 1)) n = gsum (fun f => hrs l f k) n + gsum (fun f => el l ((f + k) % 24)) n := fun n => by
        induction n with
        | zero => simp [gsum]
        | succ n ih => rw [gsum_succ, gsum_succ, gsum_succ, ih, hrs_succ]; simp only [el]; omega
      exact this 24
    rw [e, hrs_sum hl hs k, gsum_rot hl k, hs]
    omega
/-- The quietest hours are not above the mean. -/
theorem quiet_le {l : List Int} (hg : goodProf l = true) (k : Nat) : hrs l (qTo l k 24) k ≤ 100 * (k : Int) := by
  obtain ⟨h1, -, h3⟩ := goodProf_iff.1 hg
  have e := hrs_sum h1 h3 k
  have := gsum_le (g := fun f => hrs l f k) (B := hrs l (qTo l k 24) k) (n := 24) (fun i hi => qTo_min l k 24 i hi)
  omega
theorem hrs_day {l : List Int} (hg : goodProf l = true) (f : Nat) : hrs l f 24 = 2400 := by
  obtain ⟨h1, -, h3⟩ := goodProf_iff.1 hg
  rw [← h3, ← gsum_rot h1 f]
  unfold hrs gsum
  congr 1
  apply List.map_congr_left
  intro i _
  show el l _ = el l _
  rw [Nat.add_comm]
theorem hrs_add (l : List Int) (f h : Nat) : ∀ k, hrs l f (h + k) = hrs l f h + hrs l ((f + h) % 24) k
  | 0 => by simp [hrs]
  | k + 1 => by
    rw [← Nat.add_assoc, hrs_succ, hrs_succ, hrs_add l f h k]
    have e : (f + (h + k)) % 24 = ((f + h) % 24 + k) % 24 := by omega
    rw [e]
    omega
/-- The peak is not below the mean. -/
theorem peak_ge {l : List Int} (hg : goodProf l = true) : 100 ≤ el l (pkTo l 24) := by
  obtain ⟨h1, -, h3⟩ := goodProf_iff.1 hg
  have e := gsum_list l
  rw [h1, h3] at e
  apply Classical.byContradiction
  intro hc
  have h9 := gsum_le (g := fun i => -(el l i)) (B := -99) (n := 24) (fun i hi => by have := pkTo_max l 24 i hi; omega)
  have e2 : ∀ n, gsum (fun i => -(el l i)) n = -(gsum (fun i => el l i) n) := fun n => by
    induction n with
    | zero => simp [gsum]
    | succ n ih => rw [gsum_succ, gsum_succ, ih]; omega
  rw [e2, e] at h9
  omega

theorem el_shift {l : List Int} {h j : Nat} (hj : j < 24) : el (shiftL l h 24) j = el l ((j + 24 - h) % 24) := by
  simp [el, shiftL, hj]
theorem mem_shift {l : List Int} {h : Nat} (hl : l.length = 24) {x : Int} (hx : x ∈ shiftL l h 24) : x ∈ l := by
  unfold shiftL at hx
  obtain ⟨i, -, rfl⟩ := List.mem_map.1 hx
  exact getD_mem' (by rw [hl]; exact Nat.mod_lt _ (by decide))
theorem sum_shift {l : List Int} {h : Nat} (hl : l.length = 24) (hh : h ≤ 23) : (shiftL l h 24).sum = l.sum := by
  rw [← gsum_rot hl (24 - h)]
  unfold shiftL gsum
  congr 1
  apply List.map_congr_left
  intro i _
  show el l _ = el l _
  rw [show i + 24 - h = i + (24 - h) by omega]
theorem shift_good {l : List Int} {h : Nat} (hg : goodProf l = true) (hh : h ≤ 23) : goodProf (shiftL l h 24) = true := by
  obtain ⟨h1, h2, h3⟩ := goodProf_iff.1 hg
  exact goodProf_iff.2 ⟨shiftL_len _ _ _, fun x hx => h2 x (mem_shift h1 hx), by rw [sum_shift h1 hh, h3]⟩
theorem el_ext {L M : List Int} (h1 : L.length = 24) (h2 : M.length = 24) (h : ∀ j, j < 24 → el L j = el M j) : L = M := by
  apply List.ext_getElem (by omega)
  intro i q1 q2
  have := h i (by omega)
  simpa [el, q1, q2] using this
theorem shift_back {l : List Int} {h : Nat} (hl : l.length = 24) (hh : h ≤ 23) : shiftL (shiftL l h 24) ((24 - h) % 24) 24 = l := by
  refine el_ext (shiftL_len _ _ _) hl (fun j hj => ?_)
  rw [el_shift hj, el_shift (Nat.mod_lt _ (by decide))]
  congr 1
  omega
theorem shift_peak {l : List Int} {h : Nat} (hl : l.length = 24) (hh : h ≤ 23) : el (shiftL l h 24) (pkTo (shiftL l h 24) 24) = el l (pkTo l 24) := by
  have p1 := pkTo_lt l 24 (by omega)
  have p2 := pkTo_lt (shiftL l h 24) 24 (by omega)
  have a1 := pkTo_max (shiftL l h 24) 24 ((pkTo l 24 + h) % 24) (Nat.mod_lt _ (by decide))
  rw [el_shift (Nat.mod_lt _ (by decide))] at a1
  have e1 : ((pkTo l 24 + h) % 24 + 24 - h) % 24 = pkTo l 24 := by omega
  rw [e1] at a1
  have a2 := pkTo_max l 24 ((pkTo (shiftL l h 24) 24 + 24 - h) % 24) (Nat.mod_lt _ (by decide))
  have e2 := el_shift (l := l) (h := h) p2
  omega
/-- A flattened profile is one, and its peak is not above what was asked. -/
theorem fin_ok {most : Int} (hm : 100 ≤ most) : ∀ (k : Nat) (L : List Int), (exc most L).toNat = k → goodProf L = true → goodProf (fin most L) = true ∧ el (fin most L) (pkTo (fin most L) 24) ≤ most
  | k, L, hk, hg => by
    by_cases hp : most < el L (pkTo L 24)
    · have hs := stepF_good hg hm hp
      have h0 := exc_pos most (stepF L)
      rw [fin_step hg hm hp]
      cases k with
      | zero => omega
      | succ k => exact fin_ok hm k (stepF L) (by omega) hs.1
    · rw [fin_done hp]
      exact ⟨hg, by omega⟩
theorem flat_good : goodProf (List.replicate 24 100) = true := by decide

/-- Under one name. -/
theorem peakR_yes {l : List Int} (hg : goodProf l = true) : peakR l = (((pkTo l 24 : Nat) : Int), el l (pkTo l 24), true) := by unfold peakR; rw [if_pos hg]
theorem shiftR_yes {l R : List Int} {h : Int} (e : shiftR l h = (R, true)) : goodProf l = true ∧ (0 ≤ h ∧ h ≤ 23) ∧ R = shiftL l h.toNat 24 := by
  unfold shiftR at e
  split at e
  · rename_i h1
    simp only [Prod.mk.injEq, and_true] at e
    exact ⟨h1.1, inR_iff.1 h1.2, e.symm⟩
  · simp at e
theorem flatR_yes {l R : List Int} {h : Int} (e : flatR l h = (R, true)) : goodProf l = true ∧ (100 ≤ h ∧ h ≤ 1000) ∧ R = fin h l := by
  unfold flatR at e
  split at e
  · rename_i h1
    simp only [Prod.mk.injEq, and_true] at e
    exact ⟨h1.1, inR_iff.1 h1.2, e.symm⟩
  · simp at e

theorem quiet_yes {l : List Int} {h x y : Int} (e : quietR l h = (x, y, true)) : (1 ≤ h ∧ h ≤ 24) ∧ y ≤ 100 * h := by
  unfold quietR at e
  split at e
  · rename_i h1
    simp only [Bool.and_eq_true] at h1
    simp only [Prod.mk.injEq, and_true] at e
    have h2 := inR_iff.1 h1.2
    have := quiet_le h1.1 h.toNat
    exact ⟨h2, by omega⟩
  · simp at e
theorem peak_yes {l : List Int} {x y : Int} {z : Bool} (e : peakR l = (x, y, z)) : z = true → 100 ≤ y := by
  rintro rfl
  unfold peakR at e
  split at e
  · rename_i h1
    simp only [Prod.mk.injEq, and_true] at e
    have := peak_ge h1
    omega
  · simp at e

end Go.Proofs.Ytpmffboojkfpdaa

/-
  Equal lists of numbers whose lengths are told twice.
-/
set_option linter.unusedVariables false
namespace Go.Proofs.Ytpmffboojkfpdaa
open Go.RowKit

theorem l_rInts_two (a b : Option Addr) (n m c d : Nat) (l : List Int) (w : World) (h : IntsAt w a n l) (h' : IntsAt w b m l) (hn : n ≤ 4194304) :
    Calls Try.prog 30 #[.slice a n c, .slice b m d] w fun e w' => e = .returned (.bool true) ∧ Below w.heap.size w w' := by
  have h1 := l_rInts a b n m c d l l w h h' hn (by have := h.1; have := h'.1; omega)
  rwa [decide_eq_true (rfl : l = l)] at h1

end Go.Proofs.Ytpmffboojkfpdaa

/-
  What the laws on codes ask of their own helpers.
-/
set_option linter.unusedVariables false
set_option linter.unusedSimpArgs false
namespace Go.Proofs.Ytpmffboojkfpdaa
open Go.RowKit

theorem l_vBig (a : Option Addr) (n c : Nat) (w : World) : Calls Try.prog 55 #[.slice a n c] w fun e w' => e = .returned (.bool (decide (65536 < n))) ∧ w = w' := by
  go_enter Try.func55, Try.ntmps55
  go_wp2
  go_ret
  exact ⟨ret_bool (by simp <;> omega), rfl⟩
theorem l_rBig (a : Option Addr) (n c : Nat) (w : World) : Calls Try.prog 28 #[.slice a n c] w fun e w' => e = .returned (.bool (decide (65536 < n))) ∧ w = w' := by
  go_enter Try.func28, Try.ntmps28
  go_wp2
  go_ret
  exact ⟨ret_bool (by simp <;> omega), rfl⟩
theorem l_vInts_same (a b : Option Addr) (n c d : Nat) (l : List Int) (w : World) (h : IntsAt w a n l) (h' : IntsAt w b n l) (hn : n ≤ 4194304) :
    Calls Try.prog 57 #[.slice a n c, .slice b n d] w fun e w' => e = .returned (.bool true) ∧ Below w.heap.size w w' := by
  have h1 := l_vInts_eq a b n c d l l w h h' hn
  rwa [decide_eq_true (rfl : l = l)] at h1
theorem l_rInts_same (a b : Option Addr) (n c d : Nat) (l : List Int) (w : World) (h : IntsAt w a n l) (h' : IntsAt w b n l) (hn : n ≤ 4194304) :
    Calls Try.prog 30 #[.slice a n c, .slice b n d] w fun e w' => e = .returned (.bool true) ∧ Below w.heap.size w w' := by
  have h1 := l_rInts_eq a b n c d l l w h h' hn
  rwa [decide_eq_true (rfl : l = l)] at h1

end Go.Proofs.Ytpmffboojkfpdaa

