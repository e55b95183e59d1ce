/-
  Texts of this claim, joined: ProfQ, ProfV, UseQ.
-/
import Derived.Test.YtpmffboojkfpdaaUs2
import Derived.Test.YtpmffboojkfpdaaUs3
import Derived.Test.YtpmffboojkfpdaaUs8
/-
  What the answers on profiles say of one another (plain).
-/
set_option linter.unusedVariables false
set_option linter.unusedSimpArgs false
namespace Go.Proofs.Ytpmffboojkfpdaa
open Go.RowKit

/-- The sum of g 0 .. g (n - 1). -/
def gsum (g : Nat → Int) (n : Nat) : Int := ((List.range n).map g).sum
theorem gsum_succ (g : Nat → Int) (n : Nat) : gsum g (n + 1) = gsum g n + g n := by simp [gsum, List.range_succ]
theorem gsum_shift (g : Nat → Int) : ∀ n, gsum (fun i => g (i + 1)) n = gsum g n + g n - g 0
  | 0 => by simp [gsum]
  | n + 1 => by rw [gsum_succ, gsum_succ, gsum_shift g n]; omega
theorem gsum_congr {f g : Nat → Int} {n : Nat} (h : ∀ i, i < n → f i = g i) : gsum f n = gsum g n := by
  unfold gsum
  congr 1
  apply List.map_congr_left
  intro i hi
  exact h i (List.mem_range.1 hi)
theorem gsum_list (l : List Int) : gsum (fun i => el l i) l.length = l.sum := by
  unfold gsum
  congr 1
  apply List.ext_getElem
  · simp
  · intro i h1 h2
    simp [el, h2]
theorem gsum_rot {l : List Int} (hl : l.length = 24) : ∀ k, gsum (fun f => el l ((f + k) % 24)) 24 = l.sum
  | 0 => by
    rw [← gsum_list l, hl]
    exact gsum_congr (fun i hi => by rw [Nat.add_zero, Nat.mod_eq_of_lt hi])
  | k + 1 => by
    have e := gsum_shift (fun f => el l ((f + k) % 24)) 24
    have e2 : gsum (fun f => el l ((f + (k + 1)) % 24)) 24 = gsum (fun i => (fun f => el l ((f + k) % 24)) (i + 1)) 24 := gsum_congr (fun i hi => by
      show el l ((i + (k + 1)) % 24) = el l ((i + 1 + k) % 24)
      rw [show i + (k + 1) = i + 1 + k by omega])
    rw [e2, e, gsum_rot hl k]
    have e3 : (24 + k) % 24 = (0 + k) % 24 := by omega
    simp only [e3]
    omega
theorem gsum_le {g : Nat → Int} {B : Int} : ∀ {n : Nat}, (∀ i, i < n → B ≤ g i) → B * (n : Int) ≤ gsum g n
  | 0, _ => by simp [gsum]
  | n + 1, h => by
    have ih := gsum_le (g := g) (B := B) (n := n) (fun i hi => h i (by omega))
    have := h n (by omega)
    rw [gsum_succ]
    have e : B * ((n + 1 : Nat) : Int) = B * (n : Int) + B := by rw [Int.natCast_add, Int.mul_add]; simp
    omega
theorem hrs_sum {l : List Int} (hl : l.length = 24) (hs : l.sum = 2400) : ∀ k : Nat, gsum (fun f => hrs l f k) 24 = 2400 * (k : Int)
  | 0 => by simp [gsum, hrs]; decide
  | k + 1 => by
    have e : gsum (fun f => hrs l f (k + 1)) 24 = gsum (fun f => hrs l f k) 24 + gsum (fun f => el l ((f + k) % 24)) 24 := by
      have : ∀ n, gsum (fun f => hrs l f (k + 1)) n = gsum (fun f => hrs l f k) n + gsum (fun f => el l ((f + k) % 24)) n := fun n => by
        induction n with
        | zero => simp [gsum]
        | succ n ih => rw [gsum_succ, gsum_succ, gsum_succ, ih, hrs_succ]; simp only [el]; omega
      exact this 24
    rw [e, hrs_sum hl hs k, gsum_rot hl k, hs]
    omega
/-- The quietest hours are not above the mean. -/
theorem quiet_le {l : List Int} (hg : goodProf l = true) (k : Nat) : hrs l (qTo l k 24) k ≤ 100 * (k : Int) := by
  obtain ⟨h1, -, h3⟩ := goodProf_iff.1 hg
  have e := hrs_sum h1 h3 k
  have := gsum_le (g := fun f => hrs l f k) (B := hrs l (qTo l k 24) k) (n := 24) (fun i hi => qTo_min l k 24 i hi)
  omega
theorem hrs_day {l : List Int} (hg : goodProf l = true) (f : Nat) : hrs l f 24 = 2400 := by
  obtain ⟨h1, -, h3⟩ := goodProf_iff.1 hg
  rw [← h3, ← gsum_rot h1 f]
  unfold hrs gsum
  congr 1
  apply List.map_congr_left
  intro i _
  show el l _ = el l _
  rw [Nat.add_comm]
theorem hrs_add (l : List Int) (f h : Nat) : ∀ k, hrs l f (h + k) = hrs l f h + hrs l ((f + h) % 24) k
  | 0 => by simp [hrs]
  | k + 1 => by
    rw [← Nat.add_assoc, hrs_succ, hrs_succ, hrs_add l f h k]
    have e : (f + (h + k)) % 24 = ((f + h) % 24 + k) % 24 := by omega
    rw [e]
    omega
/-- The peak is not below the mean. -/
theorem peak_ge {l : List Int} (hg : goodProf l = true) : 100 ≤ el l (pkTo l 24) := by
  obtain ⟨h1, -, h3⟩ := goodProf_iff.1 hg
  have e := gsum_list l
  rw [h1, h3] at e
  apply Classical.byContradiction
  intro hc
  have h9 := gsum_le (g := fun i => -(el l i)) (B := -99) (n := 24) (fun i hi => by have := pkTo_max l 24 i hi; omega)
  have e2 : ∀ n, gsum (fun i => -(el l i)) n = -(gsum (fun i => el l i) n) := fun n => by
    induction n with
    | zero => simp [gsum]
    | succ n ih => rw [gsum_succ, gsum_succ, ih]; omega
  rw [e2, e] at h9
  omega

theorem el_shift {l : List Int} {h j : Nat} (hj : j < 24) : el (shiftL l h 24) j = el l ((j + 24 - h) % 24) := by
  simp [el, shiftL, hj]
theorem mem_shift {l : List Int} {h : Nat} (hl : l.length = 24) {x : Int} (hx : x ∈ shiftL l h 24) : x ∈ l := by
  unfold shiftL at hx
  obtain ⟨i, -, rfl⟩ := List.mem_map.1 hx
  exact getD_mem' (by rw [hl]; exact Nat.mod_lt _ (by decide))
theorem sum_shift {l : List Int} {h : Nat} (hl : l.length = 24) (hh : h ≤ 23) : (shiftL l h 24).sum = l.sum := by
  rw [← gsum_rot hl (24 - h)]
  unfold shiftL gsum
  congr 1
  apply List.map_congr_left
  intro i _
  show el l _ = el l _
  rw [show i + 24 - h = i + (24 - h) by omega]
theorem shift_good {l : List Int} {h : Nat} (hg : goodProf l = true) (hh : h ≤ 23) : goodProf (shiftL l h 24) = true := by
  obtain ⟨h1, h2, h3⟩ := goodProf_iff.1 hg
  exact goodProf_iff.2 ⟨shiftL_len _ _ _, fun x hx => h2 x (mem_shift h1 hx), by rw [sum_shift h1 hh, h3]⟩
theorem el_ext {L M : List Int} (h1 : L.length = 24) (h2 : M.length = 24) (h : ∀ j, j < 24 → el L j = el M j) : L = M := by
  apply List.ext_getElem (by omega)
  intro i q1 q2
  have := h i (by omega)
  simpa [el, q1, q2] using this
theorem shift_back {l : List Int} {h : Nat} (hl : l.length = 24) (hh : h ≤ 23) : shiftL (shiftL l h 24) ((24 - h) % 24) 24 = l := by
  refine el_ext (shiftL_len _ _ _) hl (fun j hj => ?_)
  rw [el_shift hj, el_shift (Nat.mod_lt _ (by decide))]
  congr 1
  omega
theorem shift_peak {l : List Int} {h : Nat} (hl : l.length = 24) (hh : h ≤ 23) : el (shiftL l h 24) (pkTo (shiftL l h 24) 24) = el l (pkTo l 24) := by
  have p1 := pkTo_lt l 24 (by omega)
  have p2 := pkTo_lt (shiftL l h 24) 24 (by omega)
  have a1 := pkTo_max (shiftL l h 24) 24 ((pkTo l 24 + h) % 24) (Nat.mod_lt _ (by decide))
  rw [el_shift (Nat.mod_lt _ (by decide))] at a1
  have e1 : ((pkTo l 24 + h) % 24 + 24 - h) % 24 = pkTo l 24 := by omega
  rw [e1] at a1
  have a2 := pkTo_max l 24 ((pkTo (shiftL l h 24) 24 + 24 - h) % 24) (Nat.mod_lt _ (by decide))
  have e2 := el_shift (l := l) (h := h) p2
  omega
/-- A flattened profile is one, and its peak is not above what was asked. -/
theorem fin_ok {most : Int} (hm : 100 ≤ most) : ∀ (k : Nat) (L : List Int), (exc most L).toNat = k → goodProf L = true → goodProf (fin most L) = true ∧ el (fin most L) (pkTo (fin most L) 24) ≤ most
  | k, L, hk, hg => by
    by_cases hp : most < el L (pkTo L 24)
    · have hs := stepF_good hg hm hp
      have h0 := exc_pos most (stepF L)
      rw [fin_step hg hm hp]
      cases k with
      | zero => omega
      | succ k => exact fin_ok hm k (stepF L) (by omega) hs.1
    · rw [fin_done hp]
      exact ⟨hg, by omega⟩
theorem flat_good : goodProf (List.replicate 24 100) = true := by decide

/-- Under one name. -/
theorem peakR_yes {l : List Int} (hg : goodProf l = true) : peakR l = (((pkTo l 24 : Nat) : Int), el l (pkTo l 24), true) := by unfold peakR; rw [if_pos hg]
theorem shiftR_yes {l R : List Int} {h : Int} (e : shiftR l h = (R, true)) : goodProf l = true ∧ (0 ≤ h ∧ h ≤ 23) ∧ R = shiftL l h.toNat 24 := by
  unfold shiftR at e
  split at e
  · rename_i h1
    simp only [Prod.mk.injEq, and_true] at e
    exact ⟨h1.1, inR_iff.1 h1.2, e.symm⟩
  · simp at e
theorem flatR_yes {l R : List Int} {h : Int} (e : flatR l h = (R, true)) : goodProf l = true ∧ (100 ≤ h ∧ h ≤ 1000) ∧ R = fin h l := by
  unfold flatR at e
  split at e
  · rename_i h1
    simp only [Prod.mk.injEq, and_true] at e
    exact ⟨h1.1, inR_iff.1 h1.2, e.symm⟩
  · simp at e

theorem quiet_yes {l : List Int} {h x y : Int} (e : quietR l h = (x, y, true)) : (1 ≤ h ∧ h ≤ 24) ∧ y ≤ 100 * h := by
  unfold quietR at e
  split at e
  · rename_i h1
    simp only [Bool.and_eq_true] at h1
    simp only [Prod.mk.injEq, and_true] at e
    have h2 := inR_iff.1 h1.2
    have := quiet_le h1.1 h.toNat
    exact ⟨h2, by omega⟩
  · simp at e
theorem peak_yes {l : List Int} {x y : Int} {z : Bool} (e : peakR l = (x, y, z)) : z = true → 100 ≤ y := by
  rintro rfl
  unfold peakR at e
  split at e
  · rename_i h1
    simp only [Prod.mk.injEq, and_true] at e
    have := peak_ge h1
    omega
  · simp at e

end Go.Proofs.Ytpmffboojkfpdaa

/-
  Profiles: the use at an hour, the volume of some hours.
-/
set_option linter.unusedVariables false
set_option linter.unusedSimpArgs false
namespace Go.Proofs.Ytpmffboojkfpdaa
open Go.RowKit

theorem i_UseAt_no (a : Option Addr) (n c : Nat) (base hour : Int) (l : List Int) (w : World) (h : IntsAt w a n l) (hn : n ≤ 1048576) (hv : (goodProf l && inR base 0 100000 && inR hour 0 23) = false) :
    Calls Try.prog 21 #[.agg #[.slice a n c], .int .i64 base, .int .i64 hour] w fun e w' => e = .returned (.tuple #[.int .i64 0, .int .i64 0, .bool false]) ∧ Below w.heap.size w w' := by
  have H := hid h
  clear h
  cases h1 : goodProf l
  · have HG := hid h1
    clear h1 hv
    go_enter Try.func21, Try.ntmps21
    go_wp2_with fail
    refine (i_IsValidProfile _ _ _ l _ (H.out.below (by go_grown)) (by omega)).mono ?_
    rintro e w1 ⟨rfl, hb1⟩
    rw [HG.out]
    obtain ⟨hc_w1, hf_w1⟩ := bcell hb1
    have hz_w1_0 : w.heap.size < w1.heap.size := by have := hb1.size; simp only [World.size_alloc] at this; omega
    have HB1 := hid (bstep (by go_grown) hb1 : Below w.heap.size w w1)
    go_wp2
    go_ret3
    exact ⟨rfl, HB1.out⟩
  · have HG := hid h1
    cases h2 : inR base 0 100000
    · have H2 := hid h2
      clear h1 h2 hv
      go_enter Try.func21, Try.ntmps21
      go_wp2_with fail
      refine (i_IsValidProfile _ _ _ l _ (H.out.below (by go_grown)) (by omega)).mono ?_
      rintro e w1 ⟨rfl, hb1⟩
      rw [HG.out]
      obtain ⟨hc_w1, hf_w1⟩ := bcell hb1
      have hz_w1_0 : w.heap.size < w1.heap.size := by have := hb1.size; simp only [World.size_alloc] at this; omega
      have HB1 := hid (bstep (by go_grown) hb1 : Below w.heap.size w w1)
      go_wp2_with fail
      refine (i_isBase _ _).mono ?_
      rintro e _ ⟨rfl, rfl⟩
      rw [H2.out]
      go_wp2
      go_ret3
      exact ⟨rfl, HB1.out⟩
    · have H2 := hid h2
      have H3 : Hid (inR hour 0 23 = false) := hid (by rw [h1, h2] at hv; exact hv)
      clear h1 h2 hv
      go_enter Try.func21, Try.ntmps21
      go_wp2_with fail
      refine (i_IsValidProfile _ _ _ l _ (H.out.below (by go_grown)) (by omega)).mono ?_
      rintro e w1 ⟨rfl, hb1⟩
      rw [HG.out]
      obtain ⟨hc_w1, hf_w1⟩ := bcell hb1
      have hz_w1_0 : w.heap.size < w1.heap.size := by have := hb1.size; simp only [World.size_alloc] at this; omega
      have HB1 := hid (bstep (by go_grown) hb1 : Below w.heap.size w w1)
      go_wp2_with fail
      refine (i_isBase _ _).mono ?_
      rintro e _ ⟨rfl, rfl⟩
      rw [H2.out]
      go_wp2_with fail
      refine (i_isHour _ _).mono ?_
      rintro e _ ⟨rfl, rfl⟩
      rw [H3.out]
      go_wp2
      go_ret3
      exact ⟨rfl, HB1.out⟩
theorem s_UseAt_no (a : Option Addr) (n c : Nat) (base hour : Int) (l : List Int) (w : World) (h : IntsAt w a n l) (hn : n ≤ 1048576) (hv : (goodProf l && inR base 0 100000 && inR hour 0 23) = false) :
    Calls Try.prog 20 #[.agg #[.slice a n c], .int .i64 base, .int .i64 hour] w fun e w' => e = .returned (.tuple #[.int .i64 0, .int .i64 0, .bool false]) ∧ Below w.heap.size w w' := by
  have H := hid h
  clear h
  cases h1 : goodProf l
  · have HG := hid h1
    clear h1 hv
    go_enter Try.func20, Try.ntmps20
    go_wp2_with fail
    refine (s_l6Good _ _ _ l _ (H.out.below (by go_grown)) (by omega)).mono ?_
    rintro e w1 ⟨rfl, hb1⟩
    rw [HG.out]
    obtain ⟨hc_w1, hf_w1⟩ := bcell hb1
    have hz_w1_0 : w.heap.size < w1.heap.size := by have := hb1.size; simp only [World.size_alloc] at this; omega
    have HB1 := hid (bstep (by go_grown) hb1 : Below w.heap.size w w1)
    go_wp2
    go_ret3
    exact ⟨rfl, HB1.out⟩
  · have HG := hid h1
    cases h2 : inR base 0 100000
    · have H2 := hid h2
      clear h1 h2 hv
      go_enter Try.func20, Try.ntmps20
      go_wp2_with fail
      refine (s_l6Good _ _ _ l _ (H.out.below (by go_grown)) (by omega)).mono ?_
      rintro e w1 ⟨rfl, hb1⟩
      rw [HG.out]
      obtain ⟨hc_w1, hf_w1⟩ := bcell hb1
      have hz_w1_0 : w.heap.size < w1.heap.size := by have := hb1.size; simp only [World.size_alloc] at this; omega
      have HB1 := hid (bstep (by go_grown) hb1 : Below w.heap.size w w1)
      go_wp2_with fail
      refine (s_l6Base _ _).mono ?_
      rintro e _ ⟨rfl, rfl⟩
      rw [H2.out]
      go_wp2
      go_ret3
      exact ⟨rfl, HB1.out⟩
    · have H2 := hid h2
      have H3 : Hid (inR hour 0 23 = false) := hid (by rw [h1, h2] at hv; exact hv)
      clear h1 h2 hv
      go_enter Try.func20, Try.ntmps20
      go_wp2_with fail
      refine (s_l6Good _ _ _ l _ (H.out.below (by go_grown)) (by omega)).mono ?_
      rintro e w1 ⟨rfl, hb1⟩
      rw [HG.out]
      obtain ⟨hc_w1, hf_w1⟩ := bcell hb1
      have hz_w1_0 : w.heap.size < w1.heap.size := by have := hb1.size; simp only [World.size_alloc] at this; omega
      have HB1 := hid (bstep (by go_grown) hb1 : Below w.heap.size w w1)
      go_wp2_with fail
      refine (s_l6Base _ _).mono ?_
      rintro e _ ⟨rfl, rfl⟩
      rw [H2.out]
      go_wp2_with fail
      refine (s_l6Hour _ _).mono ?_
      rintro e _ ⟨rfl, rfl⟩
      rw [H3.out]
      go_wp2
      go_ret3
      exact ⟨rfl, HB1.out⟩
set_option maxRecDepth 100000 in
theorem i_UseAt_yes (a : Option Addr) (n c : Nat) (base hour : Int) (l : List Int) (w : World) (h : IntsAt w a n l) (h1 : goodProf l = true) (h2 : inR base 0 100000 = true) (h3 : inR hour 0 23 = true) :
    Calls Try.prog 21 #[.agg #[.slice a n c], .int .i64 base, .int .i64 hour] w fun e w' => e = .returned (.tuple #[.int .i64 (lowN (base * l[hour.toNat]?.getD 0) 100), .int .i64 (lowD (base * l[hour.toNat]?.getD 0) 100), .bool true]) ∧ Below w.heap.size w w' := by
  have hg := goodProf_iff.1 h1
  have hn : n = 24 := by have := h.1; omega
  have hb := inR_iff.1 h2
  have hh := inR_iff.1 h3
  have hv := hg.2.1 _ (getD_mem' (k := hour.toNat) (by omega))
  have hm := mul_in (x := base) (y := l[hour.toNat]?.getD 0) (A := 100000) (B := 1000) (by omega) (by omega)
  simp only [Int.reduceMul] at hm
  have H := hid h
  have HG := hid h1
  have H2 := hid h2
  have H3 := hid h3
  clear h h1 h2 h3 hg
  subst hn
  go_enter Try.func21, Try.ntmps21
  go_wp2_with fail
  refine (i_IsValidProfile _ _ _ l _ (H.out.below (by go_grown)) (by omega)).mono ?_
  rintro e w1 ⟨rfl, hb1⟩
  rw [HG.out]
  obtain ⟨hc_w1, hf_w1⟩ := bcell hb1
  have hz_w1_0 : w.heap.size < w1.heap.size := by have := hb1.size; simp only [World.size_alloc] at this; omega
  have HB1 := hid (bstep (by go_grown) hb1 : Below w.heap.size w w1)
  go_wp2_with fail
  refine (i_isBase _ _).mono ?_
  rintro e _ ⟨rfl, rfl⟩
  rw [H2.out]
  go_wp2_with fail
  refine (i_isHour _ _).mono ?_
  rintro e _ ⟨rfl, rfl⟩
  rw [H3.out]
  obtain ⟨b, off, rfl, hbw, hcell⟩ := (H.out.below HB1.out).2 hour.toNat (by omega)
  go_wp2_with fail
  refine (i_lowestTerms _ _ _ (by omega) (by omega) (by omega)).mono ?_
  rintro e _ ⟨rfl, m, rfl⟩
  go_wp2
  go_ret3
  exact ⟨rfl, below_drewN HB1.out _⟩
set_option maxRecDepth 100000 in
theorem s_UseAt_yes (a : Option Addr) (n c : Nat) (base hour : Int) (l : List Int) (w : World) (h : IntsAt w a n l) (h1 : goodProf l = true) (h2 : inR base 0 100000 = true) (h3 : inR hour 0 23 = true) :
    Calls Try.prog 20 #[.agg #[.slice a n c], .int .i64 base, .int .i64 hour] w fun e w' => e = .returned (.tuple #[.int .i64 (lowN (base * l[hour.toNat]?.getD 0) 100), .int .i64 (lowD (base * l[hour.toNat]?.getD 0) 100), .bool true]) ∧ Below w.heap.size w w' := by
  have hg := goodProf_iff.1 h1
  have hn : n = 24 := by have := h.1; omega
  have hb := inR_iff.1 h2
  have hh := inR_iff.1 h3
  have hv := hg.2.1 _ (getD_mem' (k := hour.toNat) (by omega))
  have hm := mul_in (x := base) (y := l[hour.toNat]?.getD 0) (A := 100000) (B := 1000) (by omega) (by omega)
  simp only [Int.reduceMul] at hm
  have H := hid h
  have HG := hid h1
  have H2 := hid h2
  have H3 := hid h3
  clear h h1 h2 h3 hg
  subst hn
  go_enter Try.func20, Try.ntmps20
  go_wp2_with fail
  refine (s_l6Good _ _ _ l _ (H.out.below (by go_grown)) (by omega)).mono ?_
  rintro e w1 ⟨rfl, hb1⟩
  rw [HG.out]
  obtain ⟨hc_w1, hf_w1⟩ := bcell hb1
  have hz_w1_0 : w.heap.size < w1.heap.size := by have := hb1.size; simp only [World.size_alloc] at this; omega
  have HB1 := hid (bstep (by go_grown) hb1 : Below w.heap.size w w1)
  go_wp2_with fail
  refine (s_l6Base _ _).mono ?_
  rintro e _ ⟨rfl, rfl⟩
  rw [H2.out]
  go_wp2_with fail
  refine (s_l6Hour _ _).mono ?_
  rintro e _ ⟨rfl, rfl⟩
  rw [H3.out]
  obtain ⟨b, off, rfl, hbw, hcell⟩ := (H.out.below HB1.out).2 hour.toNat (by omega)
  go_wp2_with fail
  refine (s_l3Reduce _ _ _ (by omega) (by omega) (by omega)).mono ?_
  rintro e _ ⟨rfl, m, rfl⟩
  go_wp2
  go_ret3
  exact ⟨rfl, below_drewN HB1.out _⟩
theorem i_VolumeBetween_no (a : Option Addr) (n c : Nat) (base hour hours : Int) (l : List Int) (w : World) (h : IntsAt w a n l) (hn : n ≤ 1048576) (hv : (goodProf l && inR base 0 100000 && inR hour 0 23 && inR hours 0 24) = false) :
    Calls Try.prog 23 #[.agg #[.slice a n c], .int .i64 base, .int .i64 hour, .int .i64 hours] w fun e w' => e = .returned (.tuple #[.int .i64 0, .int .i64 0, .bool false]) ∧ Below w.heap.size w w' := by
  have H := hid h
  clear h
  cases h1 : goodProf l
  · have HG := hid h1
    clear h1 hv
    go_enter Try.func23, Try.ntmps23
    go_wp2_with fail
    refine (i_IsValidProfile _ _ _ l _ (H.out.below (by go_grown)) (by omega)).mono ?_
    rintro e w1 ⟨rfl, hb1⟩
    rw [HG.out]
    obtain ⟨hc_w1, hf_w1⟩ := bcell hb1
    have hz_w1_0 : w.heap.size < w1.heap.size := by have := hb1.size; simp only [World.size_alloc] at this; omega
    have HB1 := hid (bstep (by go_grown) hb1 : Below w.heap.size w w1)
    go_wp2
    go_ret3
    exact ⟨rfl, HB1.out⟩
  · have HG := hid h1
    cases h2 : inR base 0 100000
    · have H2 := hid h2
      clear h1 h2 hv
      go_enter Try.func23, Try.ntmps23
      go_wp2_with fail
      refine (i_IsValidProfile _ _ _ l _ (H.out.below (by go_grown)) (by omega)).mono ?_
      rintro e w1 ⟨rfl, hb1⟩
      rw [HG.out]
      obtain ⟨hc_w1, hf_w1⟩ := bcell hb1
      have hz_w1_0 : w.heap.size < w1.heap.size := by have := hb1.size; simp only [World.size_alloc] at this; omega
      have HB1 := hid (bstep (by go_grown) hb1 : Below w.heap.size w w1)
      go_wp2_with fail
      refine (i_isBase _ _).mono ?_
      rintro e _ ⟨rfl, rfl⟩
      rw [H2.out]
      go_wp2
      go_ret3
      exact ⟨rfl, HB1.out⟩
    · have H2 := hid h2
      cases h3 : inR hour 0 23
      · have H3 := hid h3
        clear h1 h2 h3 hv
        go_enter Try.func23, Try.ntmps23
        go_wp2_with fail
        refine (i_IsValidProfile _ _ _ l _ (H.out.below (by go_grown)) (by omega)).mono ?_
        rintro e w1 ⟨rfl, hb1⟩
        rw [HG.out]
        obtain ⟨hc_w1, hf_w1⟩ := bcell hb1
        have hz_w1_0 : w.heap.size < w1.heap.size := by have := hb1.size; simp only [World.size_alloc] at this; omega
        have HB1 := hid (bstep (by go_grown) hb1 : Below w.heap.size w w1)
        go_wp2_with fail
        refine (i_isBase _ _).mono ?_
        rintro e _ ⟨rfl, rfl⟩
        rw [H2.out]
        go_wp2_with fail
        refine (i_isHour _ _).mono ?_
        rintro e _ ⟨rfl, rfl⟩
        rw [H3.out]
        go_wp2
        go_ret3
        exact ⟨rfl, HB1.out⟩
      · have H3 := hid h3
        have H4 : Hid (inR hours 0 24 = false) := hid (by rw [h1, h2, h3] at hv; exact hv)
        clear h1 h2 h3 hv
        go_enter Try.func23, Try.ntmps23
        go_wp2_with fail
        refine (i_IsValidProfile _ _ _ l _ (H.out.below (by go_grown)) (by omega)).mono ?_
        rintro e w1 ⟨rfl, hb1⟩
        rw [HG.out]
        obtain ⟨hc_w1, hf_w1⟩ := bcell hb1
        have hz_w1_0 : w.heap.size < w1.heap.size := by have := hb1.size; simp only [World.size_alloc] at this; omega
        have HB1 := hid (bstep (by go_grown) hb1 : Below w.heap.size w w1)
        go_wp2_with fail
        refine (i_isBase _ _).mono ?_
        rintro e _ ⟨rfl, rfl⟩
        rw [H2.out]
        go_wp2_with fail
        refine (i_isHour _ _).mono ?_
        rintro e _ ⟨rfl, rfl⟩
        rw [H3.out]
        go_wp2_with fail
        refine (i_inside _ _ _ _).mono ?_
        rintro e _ ⟨rfl, rfl⟩
        rw [H4.out]
        go_wp2
        go_ret3
        exact ⟨rfl, HB1.out⟩
theorem s_VolumeBetween_no (a : Option Addr) (n c : Nat) (base hour hours : Int) (l : List Int) (w : World) (h : IntsAt w a n l) (hn : n ≤ 1048576) (hv : (goodProf l && inR base 0 100000 && inR hour 0 23 && inR hours 0 24) = false) :
    Calls Try.prog 22 #[.agg #[.slice a n c], .int .i64 base, .int .i64 hour, .int .i64 hours] w fun e w' => e = .returned (.tuple #[.int .i64 0, .int .i64 0, .bool false]) ∧ Below w.heap.size w w' := by
  have H := hid h
  clear h
  cases h1 : goodProf l
  · have HG := hid h1
    clear h1 hv
    go_enter Try.func22, Try.ntmps22
    go_wp2_with fail
    refine (s_l6Good _ _ _ l _ (H.out.below (by go_grown)) (by omega)).mono ?_
    rintro e w1 ⟨rfl, hb1⟩
    rw [HG.out]
    obtain ⟨hc_w1, hf_w1⟩ := bcell hb1
    have hz_w1_0 : w.heap.size < w1.heap.size := by have := hb1.size; simp only [World.size_alloc] at this; omega
    have HB1 := hid (bstep (by go_grown) hb1 : Below w.heap.size w w1)
    go_wp2
    go_ret3
    exact ⟨rfl, HB1.out⟩
  · have HG := hid h1
    cases h2 : inR base 0 100000
    · have H2 := hid h2
      clear h1 h2 hv
      go_enter Try.func22, Try.ntmps22
      go_wp2_with fail
      refine (s_l6Good _ _ _ l _ (H.out.below (by go_grown)) (by omega)).mono ?_
      rintro e w1 ⟨rfl, hb1⟩
      rw [HG.out]
      obtain ⟨hc_w1, hf_w1⟩ := bcell hb1
      have hz_w1_0 : w.heap.size < w1.heap.size := by have := hb1.size; simp only [World.size_alloc] at this; omega
      have HB1 := hid (bstep (by go_grown) hb1 : Below w.heap.size w w1)
      go_wp2_with fail
      refine (s_l6Base _ _).mono ?_
      rintro e _ ⟨rfl, rfl⟩
      rw [H2.out]
      go_wp2
      go_ret3
      exact ⟨rfl, HB1.out⟩
    · have H2 := hid h2
      cases h3 : inR hour 0 23
      · have H3 := hid h3
        clear h1 h2 h3 hv
        go_enter Try.func22, Try.ntmps22
        go_wp2_with fail
        refine (s_l6Good _ _ _ l _ (H.out.below (by go_grown)) (by omega)).mono ?_
        rintro e w1 ⟨rfl, hb1⟩
        rw [HG.out]
        obtain ⟨hc_w1, hf_w1⟩ := bcell hb1
        have hz_w1_0 : w.heap.size < w1.heap.size := by have := hb1.size; simp only [World.size_alloc] at this; omega
        have HB1 := hid (bstep (by go_grown) hb1 : Below w.heap.size w w1)
        go_wp2_with fail
        refine (s_l6Base _ _).mono ?_
        rintro e _ ⟨rfl, rfl⟩
        rw [H2.out]
        go_wp2_with fail
        refine (s_l6Hour _ _).mono ?_
        rintro e _ ⟨rfl, rfl⟩
        rw [H3.out]
        go_wp2
        go_ret3
        exact ⟨rfl, HB1.out⟩
      · have H3 := hid h3
        have H4 : Hid (inR hours 0 24 = false) := hid (by rw [h1, h2, h3] at hv; exact hv)
        clear h1 h2 h3 hv
        go_enter Try.func22, Try.ntmps22
        go_wp2_with fail
        refine (s_l6Good _ _ _ l _ (H.out.below (by go_grown)) (by omega)).mono ?_
        rintro e w1 ⟨rfl, hb1⟩
        rw [HG.out]
        obtain ⟨hc_w1, hf_w1⟩ := bcell hb1
        have hz_w1_0 : w.heap.size < w1.heap.size := by have := hb1.size; simp only [World.size_alloc] at this; omega
        have HB1 := hid (bstep (by go_grown) hb1 : Below w.heap.size w w1)
        go_wp2_with fail
        refine (s_l6Base _ _).mono ?_
        rintro e _ ⟨rfl, rfl⟩
        rw [H2.out]
        go_wp2_with fail
        refine (s_l6Hour _ _).mono ?_
        rintro e _ ⟨rfl, rfl⟩
        rw [H3.out]
        go_wp2_with fail
        refine (s_l1In _ _ _ _).mono ?_
        rintro e _ ⟨rfl, rfl⟩
        rw [H4.out]
        go_wp2
        go_ret3
        exact ⟨rfl, HB1.out⟩
set_option maxRecDepth 100000 in
theorem i_VolumeBetween_yes (a : Option Addr) (n c f k : Nat) (base : Int) (l : List Int) (w : World) (h : IntsAt w a n l) (h1 : goodProf l = true) (h2 : inR base 0 100000 = true) (h3 : inR (f : Int) 0 23 = true) (h4 : inR (k : Int) 0 24 = true) :
    Calls Try.prog 23 #[.agg #[.slice a n c], .int .i64 base, .int .i64 f, .int .i64 k] w fun e w' => e = .returned (.tuple #[.int .i64 (lowN (60 * base * hrs l f k) 100), .int .i64 (lowD (60 * base * hrs l f k) 100), .bool true]) ∧ Below w.heap.size w w' := by
  have hn : n = 24 := by have := h.1; have := (goodProf_iff.1 h1).1; omega
  have hb := inR_iff.1 h2
  have hh := inR_iff.1 h3
  have hk := inR_iff.1 h4
  have hv := hrs_fit h1 f k
  have hm := mul_in (x := 60 * base) (y := hrs l f k) (A := 6000000) (B := 24000) (by omega) (by omega)
  simp only [Int.reduceMul] at hm
  have H := hid h
  have HG := hid h1
  have H2 := hid h2
  have H3 := hid h3
  have H4 := hid h4
  clear h h1 h2 h3 h4
  subst hn
  go_enter Try.func23, Try.ntmps23
  go_wp2_with fail
  refine (i_IsValidProfile _ _ _ l _ (H.out.below (by go_grown)) (by omega)).mono ?_
  rintro e w1 ⟨rfl, hb1⟩
  rw [HG.out]
  obtain ⟨hc_w1, hf_w1⟩ := bcell hb1
  have hz_w1_0 : w.heap.size < w1.heap.size := by have := hb1.size; simp only [World.size_alloc] at this; omega
  have HB1 := hid (bstep (by go_grown) hb1 : Below w.heap.size w w1)
  go_wp2_with fail
  refine (i_isBase _ _).mono ?_
  rintro e _ ⟨rfl, rfl⟩
  rw [H2.out]
  go_wp2_with fail
  refine (i_isHour _ _).mono ?_
  rintro e _ ⟨rfl, rfl⟩
  rw [H3.out]
  go_wp2_with fail
  refine (i_inside _ _ _ _).mono ?_
  rintro e _ ⟨rfl, rfl⟩
  rw [H4.out]
  go_wp2_with fail
  refine (i_sumFrom _ _ _ f k l _ (H.out.below HB1.out) HG.out (by omega) (by omega)).mono ?_
  rintro e w2 ⟨rfl, hb2⟩
  go_wp2_with fail
  refine (i_lowestTerms _ _ _ (by omega) (by omega) (by omega)).mono ?_
  rintro e _ ⟨rfl, m, rfl⟩
  go_wp2
  go_ret3
  exact ⟨rfl, below_drewN (bstep HB1.out hb2) _⟩
set_option maxRecDepth 100000 in
theorem s_VolumeBetween_yes (a : Option Addr) (n c f k : Nat) (base : Int) (l : List Int) (w : World) (h : IntsAt w a n l) (h1 : goodProf l = true) (h2 : inR base 0 100000 = true) (h3 : inR (f : Int) 0 23 = true) (h4 : inR (k : Int) 0 24 = true) :
    Calls Try.prog 22 #[.agg #[.slice a n c], .int .i64 base, .int .i64 f, .int .i64 k] w fun e w' => e = .returned (.tuple #[.int .i64 (lowN (60 * base * hrs l f k) 100), .int .i64 (lowD (60 * base * hrs l f k) 100), .bool true]) ∧ Below w.heap.size w w' := by
  have hn : n = 24 := by have := h.1; have := (goodProf_iff.1 h1).1; omega
  have hb := inR_iff.1 h2
  have hh := inR_iff.1 h3
  have hk := inR_iff.1 h4
  have hv := hrs_fit h1 f k
  have hm := mul_in (x := 60 * base) (y := hrs l f k) (A := 6000000) (B := 24000) (by omega) (by omega)
  simp only [Int.reduceMul] at hm
  have H := hid h
  have HG := hid h1
  have H2 := hid h2
  have H3 := hid h3
  have H4 := hid h4
  clear h h1 h2 h3 h4
  subst hn
  go_enter Try.func22, Try.ntmps22
  go_wp2_with fail
  refine (s_l6Good _ _ _ l _ (H.out.below (by go_grown)) (by omega)).mono ?_
  rintro e w1 ⟨rfl, hb1⟩
  rw [HG.out]
  obtain ⟨hc_w1, hf_w1⟩ := bcell hb1
  have hz_w1_0 : w.heap.size < w1.heap.size := by have := hb1.size; simp only [World.size_alloc] at this; omega
  have HB1 := hid (bstep (by go_grown) hb1 : Below w.heap.size w w1)
  go_wp2_with fail
  refine (s_l6Base _ _).mono ?_
  rintro e _ ⟨rfl, rfl⟩
  rw [H2.out]
  go_wp2_with fail
  refine (s_l6Hour _ _).mono ?_
  rintro e _ ⟨rfl, rfl⟩
  rw [H3.out]
  go_wp2_with fail
  refine (s_l1In _ _ _ _).mono ?_
  rintro e _ ⟨rfl, rfl⟩
  rw [H4.out]
  go_wp2_with fail
  refine (s_l6Sum _ _ _ f k l _ (H.out.below HB1.out) HG.out (by omega) (by omega)).mono ?_
  rintro e w2 ⟨rfl, hb2⟩
  go_wp2_with fail
  refine (s_l3Reduce _ _ _ (by omega) (by omega) (by omega)).mono ?_
  rintro e _ ⟨rfl, m, rfl⟩
  go_wp2
  go_ret3
  exact ⟨rfl, below_drewN (bstep HB1.out hb2) _⟩

end Go.Proofs.Ytpmffboojkfpdaa

/-
  Volumes, storage and uses: the answers under one name, and what they say of one another (plain).
-/
set_option linter.unusedVariables false
set_option linter.unusedSimpArgs false
namespace Go.Proofs.Ytpmffboojkfpdaa
open Go.RowKit

def volR (l : List Int) (base f h : Int) : Int × Int × Bool := if (goodProf l && inR base 0 100000 && inR f 0 23 && inR h 0 24) = true then (lowN (60 * base * hrs l f.toNat h.toNat) 100, lowD (60 * base * hrs l f.toNat h.toNat) 100, true) else (0, 0, false)
def stoR (l : List Int) (base : Int) : Int × Int × Bool := if (goodProf l && inR base 0 100000) = true then (lowN (60 * base * (mxTo l 24 - mnTo l 24)) 100, lowD (60 * base * (mxTo l 24 - mnTo l 24)) 100, true) else (0, 0, false)
def useR (l : List Int) (base f : Int) : Int × Int × Bool := if (goodProf l && inR base 0 100000 && inR f 0 23) = true then (lowN (base * l[f.toNat]?.getD 0) 100, lowD (base * l[f.toNat]?.getD 0) 100, true) else (0, 0, false)
theorem i_VolumeBetween (a : Option Addr) (n c : Nat) (base f h : Int) (l : List Int) (w : World) (hA : IntsAt w a n l) (hn : n ≤ 1048576) (x y : Int) (z : Bool) (hR : volR l base f h = (x, y, z)) :
    Calls Try.prog 23 #[.agg #[.slice a n c], .int .i64 base, .int .i64 f, .int .i64 h] w fun e w' => e = .returned (.tuple #[.int .i64 x, .int .i64 y, .bool z]) ∧ Below w.heap.size w w' := by
  cases hv : (goodProf l && inR base 0 100000 && inR f 0 23 && inR h 0 24)
  · unfold volR at hR
    rw [hv] at hR
    simp only [Bool.false_eq_true, if_false, Prod.mk.injEq] at hR
    obtain ⟨rfl, rfl, rfl⟩ := hR
    exact i_VolumeBetween_no a n c base f h l w hA hn hv
  · unfold volR at hR
    rw [hv] at hR
    simp only [if_true, Prod.mk.injEq] at hR
    obtain ⟨rfl, rfl, rfl⟩ := hR
    simp only [Bool.and_eq_true] at hv
    have h1 := inR_iff.1 hv.1.2
    have h2 := inR_iff.1 hv.2
    obtain ⟨F, rfl⟩ : ∃ F : Nat, f = F := ⟨f.toNat, by omega⟩
    obtain ⟨H, rfl⟩ : ∃ H : Nat, h = H := ⟨h.toNat, by omega⟩
    simp only [Int.toNat_natCast]
    exact i_VolumeBetween_yes a n c F H base l w hA hv.1.1.1 hv.1.1.2 hv.1.2 hv.2
theorem s_VolumeBetween (a : Option Addr) (n c : Nat) (base f h : Int) (l : List Int) (w : World) (hA : IntsAt w a n l) (hn : n ≤ 1048576) (x y : Int) (z : Bool) (hR : volR l base f h = (x, y, z)) :
    Calls Try.prog 22 #[.agg #[.slice a n c], .int .i64 base, .int .i64 f, .int .i64 h] w fun e w' => e = .returned (.tuple #[.int .i64 x, .int .i64 y, .bool z]) ∧ Below w.heap.size w w' := by
  cases hv : (goodProf l && inR base 0 100000 && inR f 0 23 && inR h 0 24)
  · unfold volR at hR
    rw [hv] at hR
    simp only [Bool.false_eq_true, if_false, Prod.mk.injEq] at hR
    obtain ⟨rfl, rfl, rfl⟩ := hR
    exact s_VolumeBetween_no a n c base f h l w hA hn hv
  · unfold volR at hR
    rw [hv] at hR
    simp only [if_true, Prod.mk.injEq] at hR
    obtain ⟨rfl, rfl, rfl⟩ := hR
    simp only [Bool.and_eq_true] at hv
    have h1 := inR_iff.1 hv.1.2
    have h2 := inR_iff.1 hv.2
    obtain ⟨F, rfl⟩ : ∃ F : Nat, f = F := ⟨f.toNat, by omega⟩
    obtain ⟨H, rfl⟩ : ∃ H : Nat, h = H := ⟨h.toNat, by omega⟩
    simp only [Int.toNat_natCast]
    exact s_VolumeBetween_yes a n c F H base l w hA hv.1.1.1 hv.1.1.2 hv.1.2 hv.2
theorem i_StorageFor (a : Option Addr) (n c : Nat) (base : Int) (l : List Int) (w : World) (hA : IntsAt w a n l) (hn : n ≤ 1048576) (x y : Int) (z : Bool) (hR : stoR l base = (x, y, z)) :
    Calls Try.prog 25 #[.agg #[.slice a n c], .int .i64 base] w fun e w' => e = .returned (.tuple #[.int .i64 x, .int .i64 y, .bool z]) ∧ Below w.heap.size w w' := by
  cases hv : (goodProf l && inR base 0 100000)
  · unfold stoR at hR
    rw [hv] at hR
    simp only [Bool.false_eq_true, if_false, Prod.mk.injEq] at hR
    obtain ⟨rfl, rfl, rfl⟩ := hR
    exact i_StorageFor_no a n c base l w hA hn hv
  · unfold stoR at hR
    rw [hv] at hR
    simp only [if_true, Prod.mk.injEq] at hR
    obtain ⟨rfl, rfl, rfl⟩ := hR
    simp only [Bool.and_eq_true] at hv
    exact i_StorageFor_yes a n c base l w hA hv.1 hv.2
theorem s_StorageFor (a : Option Addr) (n c : Nat) (base : Int) (l : List Int) (w : World) (hA : IntsAt w a n l) (hn : n ≤ 1048576) (x y : Int) (z : Bool) (hR : stoR l base = (x, y, z)) :
    Calls Try.prog 24 #[.agg #[.slice a n c], .int .i64 base] w fun e w' => e = .returned (.tuple #[.int .i64 x, .int .i64 y, .bool z]) ∧ Below w.heap.size w w' := by
  cases hv : (goodProf l && inR base 0 100000)
  · unfold stoR at hR
    rw [hv] at hR
    simp only [Bool.false_eq_true, if_false, Prod.mk.injEq] at hR
    obtain ⟨rfl, rfl, rfl⟩ := hR
    exact s_StorageFor_no a n c base l w hA hn hv
  · unfold stoR at hR
    rw [hv] at hR
    simp only [if_true, Prod.mk.injEq] at hR
    obtain ⟨rfl, rfl, rfl⟩ := hR
    simp only [Bool.and_eq_true] at hv
    exact s_StorageFor_yes a n c base l w hA hv.1 hv.2
theorem i_UseAt (a : Option Addr) (n c : Nat) (base f : Int) (l : List Int) (w : World) (hA : IntsAt w a n l) (hn : n ≤ 1048576) (x y : Int) (z : Bool) (hR : useR l base f = (x, y, z)) :
    Calls Try.prog 21 #[.agg #[.slice a n c], .int .i64 base, .int .i64 f] w fun e w' => e = .returned (.tuple #[.int .i64 x, .int .i64 y, .bool z]) ∧ Below w.heap.size w w' := by
  cases hv : (goodProf l && inR base 0 100000 && inR f 0 23)
  · unfold useR at hR
    rw [hv] at hR
    simp only [Bool.false_eq_true, if_false, Prod.mk.injEq] at hR
    obtain ⟨rfl, rfl, rfl⟩ := hR
    exact i_UseAt_no a n c base f l w hA hn hv
  · unfold useR at hR
    rw [hv] at hR
    simp only [if_true, Prod.mk.injEq] at hR
    obtain ⟨rfl, rfl, rfl⟩ := hR
    simp only [Bool.and_eq_true] at hv
    exact i_UseAt_yes a n c base f l w hA hv.1.1 hv.1.2 hv.2
theorem s_UseAt (a : Option Addr) (n c : Nat) (base f : Int) (l : List Int) (w : World) (hA : IntsAt w a n l) (hn : n ≤ 1048576) (x y : Int) (z : Bool) (hR : useR l base f = (x, y, z)) :
    Calls Try.prog 20 #[.agg #[.slice a n c], .int .i64 base, .int .i64 f] w fun e w' => e = .returned (.tuple #[.int .i64 x, .int .i64 y, .bool z]) ∧ Below w.heap.size w w' := by
  cases hv : (goodProf l && inR base 0 100000 && inR f 0 23)
  · unfold useR at hR
    rw [hv] at hR
    simp only [Bool.false_eq_true, if_false, Prod.mk.injEq] at hR
    obtain ⟨rfl, rfl, rfl⟩ := hR
    exact s_UseAt_no a n c base f l w hA hn hv
  · unfold useR at hR
    rw [hv] at hR
    simp only [if_true, Prod.mk.injEq] at hR
    obtain ⟨rfl, rfl, rfl⟩ := hR
    simp only [Bool.and_eq_true] at hv
    exact s_UseAt_yes a n c base f l w hA hv.1.1 hv.1.2 hv.2

theorem low_exact2 {D : Int} (h : Int) (hD : 0 < D) : lowN (h * D) D = h ∧ lowD (h * D) D = 1 := by
  have e : gd (h * D) D = D := by
    unfold gd
    rw [Int.natAbs_mul, Nat.gcd_mul_left_left]
    omega
  unfold lowN lowD
  rw [e]
  exact ⟨Int.mul_tdiv_cancel h (by omega), Int.ediv_self (by omega)⟩
/-- A day has the volume of its mean. -/
theorem vol_yes {l : List Int} {base f h x y : Int} (e : volR l base f h = (x, y, true)) : (0 ≤ base ∧ base ≤ 100000) ∧ ∃ F H : Nat, f = F ∧ h = H ∧ F ≤ 23 ∧ H ≤ 24 ∧ (0 < y ∧ y ≤ 100) ∧ (-144000000000 ≤ x ∧ x ≤ 144000000000) ∧
    volR l base f 24 = (1440 * base, 1, true) ∧ ∃ c d : Int, volR l base (((F + H) % 24 : Nat) : Int) ((24 - H : Nat) : Int) = (c, d, true) ∧ (0 < d ∧ d ≤ 100) ∧ (-144000000000 ≤ c ∧ c ≤ 144000000000) ∧ x * d + c * y = 1440 * base * y * d := by
  unfold volR at e
  split at e
  · rename_i hv
    simp only [Bool.and_eq_true] at hv
    obtain ⟨⟨⟨h1, h2⟩, h3⟩, h4⟩ := hv
    have b2 := inR_iff.1 h2
    have b3 := inR_iff.1 h3
    have b4 := inR_iff.1 h4
    obtain ⟨F, rfl⟩ : ∃ F : Nat, f = F := ⟨f.toNat, by omega⟩
    obtain ⟨H, rfl⟩ : ∃ H : Nat, h = H := ⟨h.toNat, by omega⟩
    simp only [Int.toNat_natCast, Prod.mk.injEq, and_true] at e
    obtain ⟨hx, hy⟩ := e
    have fit : ∀ F' H' : Nat, H' ≤ 24 → (0 < lowD (60 * base * hrs l F' H') 100 ∧ lowD (60 * base * hrs l F' H') 100 ≤ 100) ∧ (-144000000000 ≤ lowN (60 * base * hrs l F' H') 100 ∧ lowN (60 * base * hrs l F' H') 100 ≤ 144000000000) ∧ lowN (60 * base * hrs l F' H') 100 * 100 = 60 * base * hrs l F' H' * lowD (60 * base * hrs l F' H') 100 := fun F' H' hH => by
      have r := hrs_fit h1 F' H'
      have m := mul_in (x := 60 * base) (y := hrs l F' H') (A := 6000000) (B := 24000) (by omega) (by omega)
      simp only [Int.reduceMul] at m
      exact ⟨⟨lowD_pos (by decide), lowD_le (by decide)⟩, lowN_fine (by decide) m, low_eq (by decide)⟩
    have f1 := fit F H (by omega)
    have f2 := fit ((F + H) % 24) (24 - H) (by omega)
    rw [hx, hy] at f1
    refine ⟨b2, F, H, rfl, rfl, by omega, by omega, f1.1, f1.2.1, ?_, _, _, ?_, f2.1, f2.2.1, ?_⟩
    · unfold volR
      rw [if_pos (by rw [h1, h2, h3]; rfl)]
      simp only [Int.toNat_natCast]
      rw [show (24 : Int).toNat = 24 from rfl, hrs_day h1, show 60 * base * 2400 = 1440 * base * 100 by omega, (low_exact2 _ (by decide)).1, (low_exact2 _ (by decide)).2]
    · unfold volR
      rw [if_pos (by rw [h1, h2, inR_iff.2 (show (0 : Int) ≤ ((F + H) % 24 : Nat) ∧ (((F + H) % 24 : Nat) : Int) ≤ 23 by omega), inR_iff.2 (show (0 : Int) ≤ ((24 - H : Nat) : Int) ∧ ((24 - H : Nat) : Int) ≤ 24 by omega)]; rfl)]
      simp only [Int.toNat_natCast]
    · have hs : hrs l F H + hrs l ((F + H) % 24) (24 - H) = 2400 := by
        rw [← hrs_add, show H + (24 - H) = 24 by omega, hrs_day h1]
      have e1 := f1.2.2
      have e2 := f2.2.2
      generalize hrs l ((F + H) % 24) (24 - H) = B at *
      generalize lowN (60 * base * B) 100 = c at *
      generalize lowD (60 * base * B) 100 = d at *
      have hA : hrs l F H = 2400 - B := by omega
      rw [hA] at e1
      have e3 : 100 * (x * d + c * y) = 100 * (1440 * base * y * d) := by grind
      exact Int.eq_of_mul_eq_mul_left (by decide) e3
  · simp at e
/-- A flat profile needs no storage, and no storage is below nothing. -/
theorem sto_yes {l : List Int} {base x y : Int} (e : stoR l base = (x, y, true)) : ¬ x < 0 ∧ stoR (List.replicate 24 100) base = (0, 1, true) := by
  unfold stoR at e
  split at e
  · rename_i hv
    simp only [Bool.and_eq_true] at hv
    obtain ⟨h1, h2⟩ := hv
    have b2 := inR_iff.1 h2
    simp only [Prod.mk.injEq, and_true] at e
    obtain ⟨hx, -⟩ := e
    have m0 : pre l 1 ∈ sumsL l 24 := List.mem_map.2 ⟨0, by simp, rfl⟩
    have m1 := mx_ub l 24 _ m0
    have m2 := mn_lb l 24 _ m0
    constructor
    · rw [← hx]
      unfold lowN
      have hg := gd_pos (a := 60 * base * (mxTo l 24 - mnTo l 24)) (b := 100) (by decide)
      have hn : 0 ≤ 60 * base * (mxTo l 24 - mnTo l 24) := Int.mul_nonneg (by omega) (by omega)
      have := Int.tdiv_nonneg hn (Int.le_of_lt hg)
      omega
    · unfold stoR
      rw [if_pos (by rw [flat_good, h2]; rfl)]
      have e0 : mxTo (List.replicate 24 100) 24 - mnTo (List.replicate 24 100) 24 = 0 := by
        have hz : ∀ x ∈ sumsL (List.replicate 24 100) 24, x = 0 := fun x hx => by
          obtain ⟨i, hi, rfl⟩ := List.mem_map.1 hx
          have hi := List.mem_range.1 hi
          unfold pre
          rw [List.take_replicate, List.sum_replicate_int]
          omega
        have q0 : pre (List.replicate 24 100) 1 ∈ sumsL (List.replicate 24 100) 24 := List.mem_map.2 ⟨0, by simp, rfl⟩
        have q1 := mx_ub (List.replicate 24 100) 24 _ q0
        rw [hz _ q0] at q1
        have q2 := hz _ (mn_mem flat_good 24 (by omega) (by omega))
        rcases mx_mem flat_good 24 (by omega) with q3 | q3
        · omega
        · have := hz _ q3; omega
      rw [e0, Int.mul_zero]
      rfl
  · simp at e

end Go.Proofs.Ytpmffboojkfpdaa

