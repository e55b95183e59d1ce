/-
  Texts of this claim, joined: Mix, LawG.
-/
import Derived.Test.YtpmffboojkfpdaaUs1
import Derived.Test.YtpmffboojkfpdaaUs2
import Derived.Test.YtpmffboojkfpdaaUs4
import Derived.Test.YtpmffboojkfpdaaUs9
/-
  MixProfiles, in the program and in the reference.
-/
set_option linter.unusedVariables false
set_option linter.unusedSimpArgs false
namespace Go.Proofs.Ytpmffboojkfpdaa
open Go.RowKit

theorem step_append_i {ops : Array Oper} {o : Oper} {a : Act} {K : Act → World → Prop} {Q : Exit → Act → World → Prop} {E : Prop} {w : World} (hgd : o.guard = none) (s x : Operand)
    (ho : o.op = .call { callee := .builtin .append, args := #[s, x], argTypes := #[22, 22] })
    (B : Nat) (v : Value) (l : List Int) (hs : a.eval s = v) (hown : OwnI w B v l)
    (ad : Addr) (m c : Nat) (l2 : List Int) (hx : a.eval x = .slice (some ad) m c) (hat : IntsAt w (some ad) m l2)
    (N : Nat) (hN : l.length + m = N) (hb : N ≤ 1099511627776) (hB : B ≤ w.heap.size)
    (h : ∀ a' c' w', OwnI w' B (.slice a' N c') (l ++ l2) → w.grownBy w' v.ownBlock → (Value.ownBlock (.slice a' N c') = v.ownBlock ∨ Value.ownBlock (.slice a' N c') = some w.heap.size) → K (a.put o.dst (.slice a' N c')) w') :
    if Region.wanted o (yielded ops a.tmps) = true then Oper.wp Try.prog o a w K Q else E := by
  have hw : Region.wanted o (yielded ops a.tmps) = true := by simp [Region.wanted, hgd]
  rw [if_pos hw]
  obtain ⟨i0, hi, hz0, hz1, hz2⟩ := info_parts Try.infoInt
  obtain ⟨h1, h2, h3, h4⟩ := hat.cells
  obtain ⟨v', w', hrun, k1, k2, _⟩ := run_append_own (P := Try.prog) w B 22 o.type 3 i0 _ 1 8 Try.underlying22 hi hz0 hz1 hz2 rfl (by decide) v l.length _ hown ad m c _ h1 (h3 ad rfl) h4 (by unfold maxLen; omega) (by omega) hB
  have k3 := append_block w B 22 o.type 3 i0 _ 1 8 Try.underlying22 hi hz0 hz1 hz2 v l.length _ hown ad m c _ h1 (h3 ad rfl) h4 (by unfold maxLen; omega) (by omega) hrun
  have ho2 : OwnI w' B v' (l ++ l2) := OwnI.of_row (n := l.length + m) (by rw [List.map_append]; exact k1)
  obtain ⟨a', c', rfl⟩ := ho2.form
  have e : (l ++ l2).length = N := by rw [List.length_append, hat.1]; exact hN
  rw [e] at ho2 hrun k3
  unfold Oper.wp
  simp [execOp, ho, resolve, invoke, builtin, hs, hx, hrun, Result.andThen]
  exact h a' c' w' ho2 k2 k3

def mixL (A B : List Int) (s : Int) (k : Nat) : List Int := (List.range k).map fun i => el A i * s + el B i * (100 - s)
theorem mixL_len (A B : List Int) (s : Int) (k : Nat) : (mixL A B s k).length = k := by simp [mixL]
theorem mixL_succ (A B : List Int) (s : Int) (k : Nat) : mixL A B s (k + 1) = mixL A B s k ++ [el A k * s + el B k * (100 - s)] := by simp [mixL, List.range_succ]
/-- What MixProfiles returns. -/
def mixR (A B : List Int) (s : Int) : List Int × Bool := if (goodProf A && goodProf B && inR s 0 100) = true then (mixL A B s 24, true) else ([], false)
theorem mixR_len {A B R : List Int} {s : Int} {b : Bool} (h : mixR A B s = (R, b)) : R.length ≤ 24 := by
  unfold mixR at h
  split at h
  · simp only [Prod.mk.injEq] at h
    rw [← h.1, mixL_len]
    exact Nat.le_refl _
  · simp only [Prod.mk.injEq] at h
    rw [← h.1]
    simp
theorem mix_sum {A B R : List Int} {s : Int} (h : mixR A B s = (R, true)) : R.sum = 240000 ∧ ∀ x ∈ R, 0 ≤ x ∧ x ≤ 200000 := by
  unfold mixR at h
  split at h
  · rename_i hv
    simp only [Bool.and_eq_true] at hv
    simp only [Prod.mk.injEq, and_true] at h
    obtain ⟨⟨h1, h2⟩, h3⟩ := hv
    have hs := inR_iff.1 h3
    obtain ⟨a1, a2, a3⟩ := goodProf_iff.1 h1
    obtain ⟨b1, b2, b3⟩ := goodProf_iff.1 h2
    subst h
    constructor
    · have e : ∀ k, gsum (fun i => el A i * s + el B i * (100 - s)) k = gsum (fun i => el A i) k * s + gsum (fun i => el B i) k * (100 - s) := fun k => by
        induction k with
        | zero => simp [gsum]
        | succ k ih => rw [gsum_succ, gsum_succ, gsum_succ, ih]; grind
      have e2 := e 24
      have q1 := gsum_list A
      have q2 := gsum_list B
      rw [a1, a3] at q1
      rw [b1, b3] at q2
      rw [q1, q2] at e2
      have e3 : (mixL A B s 24).sum = gsum (fun i => el A i * s + el B i * (100 - s)) 24 := rfl
      rw [e3, e2]
      omega
    · intro x hx
      unfold mixL at hx
      obtain ⟨i, hi, rfl⟩ := List.mem_map.1 hx
      have hi := List.mem_range.1 hi
      have p1 : 0 ≤ el A i ∧ el A i ≤ 1000 := a2 _ (getD_mem' (by omega))
      have p2 : 0 ≤ el B i ∧ el B i ≤ 1000 := b2 _ (getD_mem' (by omega))
      have m1 := mul_in (x := el A i) (y := s) (A := 1000) (B := 100) (by omega) (by omega)
      have m2 := mul_in (x := el B i) (y := 100 - s) (A := 1000) (B := 100) (by omega) (by omega)
      have n1 := Int.mul_nonneg p1.1 hs.1
      have n2 := Int.mul_nonneg (b := 100 - s) p2.1 (by omega)
      simp only [Int.reduceMul] at m1 m2
      omega
  · simp at h

set_option maxRecDepth 100000 in
set_option maxHeartbeats 8000000 in
theorem i_MixProfiles_no (pa pb : Option Addr) (n c m d : Nat) (A B : List Int) (s : Int) (w : World) (h : IntsAt w pa n A) (h' : IntsAt w pb m B) (hn : n ≤ 1048576) (hm : m ≤ 1048576) (hv : (goodProf A && goodProf B && inR s 0 100) = false) :
    Calls Try.prog 43 #[.agg #[.slice pa n c], .agg #[.slice pb m d], .int .i64 s] w fun e w' => ∃ a' c', e = .returned (.tuple #[.slice a' 0 c', .bool false]) ∧ OwnI w' w.heap.size (.slice a' 0 c') [] ∧ Below w.heap.size w w' := by
  have H := hid h
  have H' := hid h'
  clear h h'
  cases hA : goodProf A
  · have HA := hid hA
    clear hA hv
    go_enter Try.func43, Try.ntmps43
    go_wp2_with fail
    refine (i_IsValidProfile _ _ _ A _ (H.out.below (by go_grown)) (by omega)).mono ?_
    rintro e w1 ⟨rfl, hb1⟩
    rw [HA.out]
    have HB1 := hid (bstep (by go_grown) hb1 : Below w.heap.size w w1)
    have OZ := hid (OwnI.nil _ _ : OwnI w1 w.heap.size _ [])
    (try simp only [World.size_alloc] at OZ)
    go_wp2
    go_ret2
    exact ⟨_, _, rfl, OZ.out, HB1.out⟩
  · have HA := hid hA
    cases hB : goodProf B
    · have HB := hid hB
      clear hA hB hv
      go_enter Try.func43, Try.ntmps43
      go_wp2_with fail
      refine (i_IsValidProfile _ _ _ A _ (H.out.below (by go_grown)) (by omega)).mono ?_
      rintro e w1 ⟨rfl, hb1⟩
      rw [HA.out]
      have HB1 := hid (bstep (by go_grown) hb1 : Below w.heap.size w w1)
      have OZ := hid (OwnI.nil _ _ : OwnI w1 w.heap.size _ [])
      (try simp only [World.size_alloc] at OZ)
      have T0 := hid ((hb1.block w.heap.size (by simp <;> omega)).trans (by first | (rw [Below.heap_alloc _ _ _ (by simp <;> omega), Below.heap_alloc _ _ _ (by simp)]; exact heap_alloc_new _ _) | (rw [Below.heap_alloc _ _ _ (by simp)]; exact heap_alloc_new _ _) : _ = some (.cells #[.slice pa n c] 26 (0, 0))))
      have T1 := hid ((hb1.block (w.heap.size + 1) (by simp <;> omega)).trans (by first | (rw [Below.heap_alloc _ _ _ (by simp)]; exact last_newP (w.alloc _) _ _ (by simp)) | exact last_newP (w.alloc _) _ _ (by simp) : _ = some (.cells #[.slice pb m d] 26 (0, 0))))
      have m0 : w1.cell? ⟨w.heap.size, 0, none⟩ = some (.slice pa n c) := by rw [cell_of_row _ _ _ _ _ (0, 0) T0.out]; rfl
      have m1 : w1.cell? ⟨w.heap.size + 1, 0, none⟩ = some (.slice pb m d) := by rw [cell_of_row _ _ _ _ _ (0, 0) T1.out]; rfl
      have hz0 := (Array.getElem?_eq_some_iff.1 T0.out).1
      have hz1 := (Array.getElem?_eq_some_iff.1 T1.out).1
      clear hb1
      go_wp2_with fail
      refine (i_IsValidProfile _ _ _ B _ (H'.out.below HB1.out) (by omega)).mono ?_
      rintro e w2 ⟨rfl, hb2⟩
      rw [HB.out]
      have HB2 := hid (bstep HB1.out hb2)
      have T02 := hid ((hb2.block _ hz0).trans T0.out)
      have T12 := hid ((hb2.block _ hz1).trans T1.out)
      have OY := hid (OZ.out.below hb2)
      clear hb2 m0 m1
      go_wp2
      go_ret2
      exact ⟨_, _, rfl, OY.out, HB2.out⟩
    · have HB := hid hB
      have HS : Hid (inR s 0 100 = false) := hid (by rw [hA, hB] at hv; exact hv)
      clear hA hB hv
      go_enter Try.func43, Try.ntmps43
      go_wp2_with fail
      refine (i_IsValidProfile _ _ _ A _ (H.out.below (by go_grown)) (by omega)).mono ?_
      rintro e w1 ⟨rfl, hb1⟩
      rw [HA.out]
      have HB1 := hid (bstep (by go_grown) hb1 : Below w.heap.size w w1)
      have OZ := hid (OwnI.nil _ _ : OwnI w1 w.heap.size _ [])
      (try simp only [World.size_alloc] at OZ)
      have T0 := hid ((hb1.block w.heap.size (by simp <;> omega)).trans (by first | (rw [Below.heap_alloc _ _ _ (by simp <;> omega), Below.heap_alloc _ _ _ (by simp)]; exact heap_alloc_new _ _) | (rw [Below.heap_alloc _ _ _ (by simp)]; exact heap_alloc_new _ _) : _ = some (.cells #[.slice pa n c] 26 (0, 0))))
      have T1 := hid ((hb1.block (w.heap.size + 1) (by simp <;> omega)).trans (by first | (rw [Below.heap_alloc _ _ _ (by simp)]; exact last_newP (w.alloc _) _ _ (by simp)) | exact last_newP (w.alloc _) _ _ (by simp) : _ = some (.cells #[.slice pb m d] 26 (0, 0))))
      have m0 : w1.cell? ⟨w.heap.size, 0, none⟩ = some (.slice pa n c) := by rw [cell_of_row _ _ _ _ _ (0, 0) T0.out]; rfl
      have m1 : w1.cell? ⟨w.heap.size + 1, 0, none⟩ = some (.slice pb m d) := by rw [cell_of_row _ _ _ _ _ (0, 0) T1.out]; rfl
      have hz0 := (Array.getElem?_eq_some_iff.1 T0.out).1
      have hz1 := (Array.getElem?_eq_some_iff.1 T1.out).1
      clear hb1
      go_wp2_with fail
      refine (i_IsValidProfile _ _ _ B _ (H'.out.below HB1.out) (by omega)).mono ?_
      rintro e w2 ⟨rfl, hb2⟩
      rw [HB.out]
      have HB2 := hid (bstep HB1.out hb2)
      have T02 := hid ((hb2.block _ hz0).trans T0.out)
      have T12 := hid ((hb2.block _ hz1).trans T1.out)
      have OY := hid (OZ.out.below hb2)
      clear hb2 m0 m1
      go_wp2_with fail
      refine (i_inside _ _ _ _).mono ?_
      rintro e _ ⟨rfl, rfl⟩
      rw [HS.out]
      go_wp2
      go_ret2
      exact ⟨_, _, rfl, OY.out, HB2.out⟩
set_option maxRecDepth 100000 in
set_option maxHeartbeats 8000000 in
theorem s_MixProfiles_no (pa pb : Option Addr) (n c m d : Nat) (A B : List Int) (s : Int) (w : World) (h : IntsAt w pa n A) (h' : IntsAt w pb m B) (hn : n ≤ 1048576) (hm : m ≤ 1048576) (hv : (goodProf A && goodProf B && inR s 0 100) = false) :
    Calls Try.prog 44 #[.agg #[.slice pa n c], .agg #[.slice pb m d], .int .i64 s] w fun e w' => ∃ a' c', e = .returned (.tuple #[.slice a' 0 c', .bool false]) ∧ OwnI w' w.heap.size (.slice a' 0 c') [] ∧ Below w.heap.size w w' := by
  have H := hid h
  have H' := hid h'
  clear h h'
  cases hA : goodProf A
  · have HA := hid hA
    clear hA hv
    go_enter Try.func44, Try.ntmps44
    go_wp2_with fail
    refine (s_l6Good _ _ _ A _ (H.out.below (by go_grown)) (by omega)).mono ?_
    rintro e w1 ⟨rfl, hb1⟩
    rw [HA.out]
    have HB1 := hid (bstep (by go_grown) hb1 : Below w.heap.size w w1)
    have OZ := hid (((OwnI.lit0 ((w.alloc (.cells #[.slice pa n c] 26)).alloc (.cells #[.slice pb m d] 26))).below hb1).mono (by simp <;> omega) : OwnI w1 w.heap.size _ [])
    (try simp only [World.size_alloc] at OZ)
    go_wp2
    go_ret2
    exact ⟨_, _, rfl, OZ.out, HB1.out⟩
  · have HA := hid hA
    cases hB : goodProf B
    · have HB := hid hB
      clear hA hB hv
      go_enter Try.func44, Try.ntmps44
      go_wp2_with fail
      refine (s_l6Good _ _ _ A _ (H.out.below (by go_grown)) (by omega)).mono ?_
      rintro e w1 ⟨rfl, hb1⟩
      rw [HA.out]
      have HB1 := hid (bstep (by go_grown) hb1 : Below w.heap.size w w1)
      have OZ := hid (((OwnI.lit0 ((w.alloc (.cells #[.slice pa n c] 26)).alloc (.cells #[.slice pb m d] 26))).below hb1).mono (by simp <;> omega) : OwnI w1 w.heap.size _ [])
      (try simp only [World.size_alloc] at OZ)
      have T0 := hid ((hb1.block w.heap.size (by simp <;> omega)).trans (by first | (rw [Below.heap_alloc _ _ _ (by simp <;> omega), Below.heap_alloc _ _ _ (by simp)]; exact heap_alloc_new _ _) | (rw [Below.heap_alloc _ _ _ (by simp)]; exact heap_alloc_new _ _) : _ = some (.cells #[.slice pa n c] 26 (0, 0))))
      have T1 := hid ((hb1.block (w.heap.size + 1) (by simp <;> omega)).trans (by first | (rw [Below.heap_alloc _ _ _ (by simp)]; exact last_newP (w.alloc _) _ _ (by simp)) | exact last_newP (w.alloc _) _ _ (by simp) : _ = some (.cells #[.slice pb m d] 26 (0, 0))))
      have m0 : w1.cell? ⟨w.heap.size, 0, none⟩ = some (.slice pa n c) := by rw [cell_of_row _ _ _ _ _ (0, 0) T0.out]; rfl
      have m1 : w1.cell? ⟨w.heap.size + 1, 0, none⟩ = some (.slice pb m d) := by rw [cell_of_row _ _ _ _ _ (0, 0) T1.out]; rfl
      have hz0 := (Array.getElem?_eq_some_iff.1 T0.out).1
      have hz1 := (Array.getElem?_eq_some_iff.1 T1.out).1
      clear hb1
      go_wp2_with fail
      refine (s_l6Good _ _ _ B _ (H'.out.below HB1.out) (by omega)).mono ?_
      rintro e w2 ⟨rfl, hb2⟩
      rw [HB.out]
      have HB2 := hid (bstep HB1.out hb2)
      have T02 := hid ((hb2.block _ hz0).trans T0.out)
      have T12 := hid ((hb2.block _ hz1).trans T1.out)
      have OY := hid (OZ.out.below hb2)
      clear hb2 m0 m1
      go_wp2
      go_ret2
      exact ⟨_, _, rfl, OY.out, HB2.out⟩
    · have HB := hid hB
      have HS : Hid (inR s 0 100 = false) := hid (by rw [hA, hB] at hv; exact hv)
      clear hA hB hv
      go_enter Try.func44, Try.ntmps44
      go_wp2_with fail
      refine (s_l6Good _ _ _ A _ (H.out.below (by go_grown)) (by omega)).mono ?_
      rintro e w1 ⟨rfl, hb1⟩
      rw [HA.out]
      have HB1 := hid (bstep (by go_grown) hb1 : Below w.heap.size w w1)
      have OZ := hid (((OwnI.lit0 ((w.alloc (.cells #[.slice pa n c] 26)).alloc (.cells #[.slice pb m d] 26))).below hb1).mono (by simp <;> omega) : OwnI w1 w.heap.size _ [])
      (try simp only [World.size_alloc] at OZ)
      have T0 := hid ((hb1.block w.heap.size (by simp <;> omega)).trans (by first | (rw [Below.heap_alloc _ _ _ (by simp <;> omega), Below.heap_alloc _ _ _ (by simp)]; exact heap_alloc_new _ _) | (rw [Below.heap_alloc _ _ _ (by simp)]; exact heap_alloc_new _ _) : _ = some (.cells #[.slice pa n c] 26 (0, 0))))
      have T1 := hid ((hb1.block (w.heap.size + 1) (by simp <;> omega)).trans (by first | (rw [Below.heap_alloc _ _ _ (by simp)]; exact last_newP (w.alloc _) _ _ (by simp)) | exact last_newP (w.alloc _) _ _ (by simp) : _ = some (.cells #[.slice pb m d] 26 (0, 0))))
      have m0 : w1.cell? ⟨w.heap.size, 0, none⟩ = some (.slice pa n c) := by rw [cell_of_row _ _ _ _ _ (0, 0) T0.out]; rfl
      have m1 : w1.cell? ⟨w.heap.size + 1, 0, none⟩ = some (.slice pb m d) := by rw [cell_of_row _ _ _ _ _ (0, 0) T1.out]; rfl
      have hz0 := (Array.getElem?_eq_some_iff.1 T0.out).1
      have hz1 := (Array.getElem?_eq_some_iff.1 T1.out).1
      clear hb1
      go_wp2_with fail
      refine (s_l6Good _ _ _ B _ (H'.out.below HB1.out) (by omega)).mono ?_
      rintro e w2 ⟨rfl, hb2⟩
      rw [HB.out]
      have HB2 := hid (bstep HB1.out hb2)
      have T02 := hid ((hb2.block _ hz0).trans T0.out)
      have T12 := hid ((hb2.block _ hz1).trans T1.out)
      have OY := hid (OZ.out.below hb2)
      clear hb2 m0 m1
      go_wp2_with fail
      refine (s_l1In _ _ _ _).mono ?_
      rintro e _ ⟨rfl, rfl⟩
      rw [HS.out]
      go_wp2
      go_ret2
      exact ⟨_, _, rfl, OY.out, HB2.out⟩

set_option maxRecDepth 100000 in
set_option maxHeartbeats 8000000 in
theorem i_MixProfiles_yes (pa pb : Option Addr) (n c m d : Nat) (A B : List Int) (s : Int) (w : World) (h : IntsAt w pa n A) (h' : IntsAt w pb m B) (hgA : goodProf A = true) (hgB : goodProf B = true) (hs : inR s 0 100 = true) :
    Calls Try.prog 43 #[.agg #[.slice pa n c], .agg #[.slice pb m d], .int .i64 s] w fun e w' => ∃ a' c', e = .returned (.tuple #[.slice a' 24 c', .bool true]) ∧ OwnI w' w.heap.size (.slice a' 24 c') (mixL A B s 24) ∧ Below w.heap.size w w' := by
  obtain ⟨a1, a2, a3⟩ := goodProf_iff.1 hgA
  obtain ⟨b1, b2, b3⟩ := goodProf_iff.1 hgB
  have hn : n = 24 := by have := h.1; omega
  have hm : m = 24 := by have := h'.1; omega
  have hs2 := inR_iff.1 hs
  have H := hid h
  have H' := hid h'
  have HA := hid hgA
  have HB := hid hgB
  have HS := hid hs
  have HA2 := hid (show ∀ i, i < 24 → 0 ≤ el A i ∧ el A i ≤ 1000 from fun i hi => a2 _ (getD_mem' (by omega)))
  have HB3 := hid (show ∀ i, i < 24 → 0 ≤ el B i ∧ el B i ≤ 1000 from fun i hi => b2 _ (getD_mem' (by omega)))
  clear h h' hgA hgB hs a1 a2 a3 b1 b2 b3
  subst hn
  subst hm
  go_enter Try.func43, Try.ntmps43
  go_wp2_with fail
  refine (i_IsValidProfile _ _ _ A _ (H.out.below (by go_grown)) (by omega)).mono ?_
  rintro e w1 ⟨rfl, hb1⟩
  rw [HA.out]
  have HB1 := hid (bstep (by go_grown) hb1 : Below w.heap.size w w1)
  have T0 := hid ((hb1.block w.heap.size (by simp <;> omega)).trans (by first | (rw [Below.heap_alloc _ _ _ (by simp <;> omega), Below.heap_alloc _ _ _ (by simp)]; exact heap_alloc_new _ _) | (rw [Below.heap_alloc _ _ _ (by simp)]; exact heap_alloc_new _ _) : _ = some (.cells #[.slice pa 24 c] 26 (0, 0))))
  have T1 := hid ((hb1.block (w.heap.size + 1) (by simp <;> omega)).trans (by first | (rw [Below.heap_alloc _ _ _ (by simp)]; exact last_newP (w.alloc _) _ _ (by simp)) | exact last_newP (w.alloc _) _ _ (by simp) : _ = some (.cells #[.slice pb 24 d] 26 (0, 0))))
  have m0 : w1.cell? ⟨w.heap.size, 0, none⟩ = some (.slice pa 24 c) := by rw [cell_of_row _ _ _ _ _ (0, 0) T0.out]; rfl
  have m1 : w1.cell? ⟨w.heap.size + 1, 0, none⟩ = some (.slice pb 24 d) := by rw [cell_of_row _ _ _ _ _ (0, 0) T1.out]; rfl
  have hz0 := (Array.getElem?_eq_some_iff.1 T0.out).1
  have hz1 := (Array.getElem?_eq_some_iff.1 T1.out).1
  clear hb1
  go_wp2_with fail
  refine (i_IsValidProfile _ _ _ B _ (H'.out.below HB1.out) (by omega)).mono ?_
  rintro e w2 ⟨rfl, hb2⟩
  rw [HB.out]
  have HB2 := hid (bstep HB1.out hb2)
  have T02 := hid ((hb2.block _ hz0).trans T0.out)
  have T12 := hid ((hb2.block _ hz1).trans T1.out)
  clear hb2 m0 m1
  have hz02 := (Array.getElem?_eq_some_iff.1 T02.out).1
  have hz12 := (Array.getElem?_eq_some_iff.1 T12.out).1
  have m0 : w2.cell? ⟨w.heap.size, 0, none⟩ = some (.slice pa 24 c) := by rw [cell_of_row _ _ _ _ _ (0, 0) T02.out]; rfl
  go_wp2_with fail
  refine (i_inside _ _ _ _).mono ?_
  rintro e _ ⟨rfl, rfl⟩
  rw [HS.out]
  go_wp2
  go_loopg [8, 28] 24 (fun gm o i wr => ∃ (k : Nat) (a' : Option Addr) (c' : Nat), k ≤ 24 ∧ gm = 24 - k ∧ i = .int .i64 k ∧ o = .slice a' k c' ∧ Hid (OwnI wr w2.heap.size (.slice a' k c') (mixL A B s k) ∧ Below w2.heap.size w2 wr))
  case atStart => exact ⟨0, _, 0, Nat.zero_le _, rfl, rfl, rfl, hid ⟨OwnI.lit0 w2, by go_grown⟩⟩
  case round =>
    obtain ⟨k, a', c', hk, rfl, rfl, rfl, hh⟩ := hrel
    have BR := hid (bstep HB2.out hh.out.2)
    clear m0
    have m1 : wr.cell? ⟨w.heap.size + 1, 0, none⟩ = some (.slice pb 24 d) := by rw [cell_of_row _ _ _ _ _ (0, 0) ((hh.out.2.block _ hz12).trans T12.out)]; rfl
    have hz1r : w.heap.size + 1 < wr.heap.size := by have := hh.out.2.size; omega
    by_cases hlt : k < 24
    · obtain ⟨ba, oa, rfl, hba, hcA⟩ := (H.out.below BR.out).2 k hlt
      obtain ⟨bb, ob, rfl, hbb, hcB⟩ := (H'.out.below BR.out).2 k hlt
      have hv1 := HA2.out k hlt
      have hv2 := HB3.out k hlt
      have q1 := mul_in (x := el A k) (y := s) (A := 1000) (B := 100) (by omega) (by omega)
      have q2 := mul_in (x := el B k) (y := 100 - s) (A := 1000) (B := 100) (by omega) (by omega)
      simp only [Int.reduceMul] at q1 q2
      have HMS := hid (mixL_succ A B s k)
      have hcA2 : wr.cell? ⟨ba, oa + k, none⟩ = some (.int .i64 (el A k)) := hcA
      have hcB2 : wr.cell? ⟨bb, ob + k, none⟩ = some (.int .i64 (el B k)) := hcB
      obtain ⟨va, hva⟩ : ∃ v, el A k = v := ⟨_, rfl⟩
      obtain ⟨vb, hvb⟩ : ∃ v, el B k = v := ⟨_, rfl⟩
      rw [hva] at hcA2 q1 HMS hv1
      rw [hvb] at hcB2 q2 HMS hv2
      have HVA := hid hva
      have HVB := hid hvb
      clear hcA hcB hva hvb
      have hw1 := IntWalk.i64_in (va * s) (by omega)
      have hw2 := IntWalk.i64_in (100 - s) (by omega)
      have hw3 := IntWalk.i64_in (vb * (100 - s)) (by omega)
      have hw4 := IntWalk.i64_in (va * s + vb * (100 - s)) (by omega)
      have hwk : IntKind.i64.wrap ((k : Int) + 1) = ((k + 1 : Nat) : Int) := by rw [IntWalk.i64_in _ (by omega)]; omega
      have hll := hh.out.1.len
      go_wp2_with (at_builtin; refine wp_append_ints _ rfl _ _ rfl w2.heap.size _ (mixL A B s k) rfl (hh.out.1.alloc _) _ 1 1 [va * s + vb * (100 - s)] rfl (IntsAt.single _ _) (k + 1) (by rw [mixL_len]) (by omega) (by have := hh.out.2.size; simp; omega) ?_)
      intro a2 c2 w5 hown hgrow hblk
      have S5 := hid (show OwnI w5 w2.heap.size (.slice a2 (k + 1) c2) (mixL A B s (k + 1)) ∧ Below w2.heap.size w2 w5 from ⟨by rw [HMS.out]; exact hown, (bstep hh.out.2 (by go_grown)).grown hgrow (by have := hh.out.2.size; simp; omega) (fun q e => (hh.out.1.lt q e).1)⟩)
      clear hown hgrow hblk hll
      go_wp2
      go_roundg (24 - (k + 1))
      case rel => exact ⟨k + 1, _, _, by omega, rfl, rfl, rfl, S5⟩
      case measure => omega
    · obtain rfl : k = 24 := by omega
      go_wp2
      go_ret2
      exact ⟨_, _, rfl, hh.out.1.mono HB2.out.size, BR.out⟩

set_option maxRecDepth 100000 in
set_option maxHeartbeats 8000000 in
theorem s_MixProfiles_yes (pa pb : Option Addr) (n c m d : Nat) (A B : List Int) (s : Int) (w : World) (h : IntsAt w pa n A) (h' : IntsAt w pb m B) (hgA : goodProf A = true) (hgB : goodProf B = true) (hs : inR s 0 100 = true) :
    Calls Try.prog 44 #[.agg #[.slice pa n c], .agg #[.slice pb m d], .int .i64 s] w fun e w' => ∃ a' c', e = .returned (.tuple #[.slice a' 24 c', .bool true]) ∧ OwnI w' w.heap.size (.slice a' 24 c') (mixL A B s 24) ∧ Below w.heap.size w w' := by
  obtain ⟨a1, a2, a3⟩ := goodProf_iff.1 hgA
  obtain ⟨b1, b2, b3⟩ := goodProf_iff.1 hgB
  have hn : n = 24 := by have := h.1; omega
  have hm : m = 24 := by have := h'.1; omega
  have hs2 := inR_iff.1 hs
  have H := hid h
  have H' := hid h'
  have HA := hid hgA
  have HB := hid hgB
  have HS := hid hs
  have HA2 := hid (show ∀ i, i < 24 → 0 ≤ el A i ∧ el A i ≤ 1000 from fun i hi => a2 _ (getD_mem' (by omega)))
  have HB3 := hid (show ∀ i, i < 24 → 0 ≤ el B i ∧ el B i ≤ 1000 from fun i hi => b2 _ (getD_mem' (by omega)))
  clear h h' hgA hgB hs a1 a2 a3 b1 b2 b3
  subst hn
  subst hm
  go_enter Try.func44, Try.ntmps44
  go_wp2_with fail
  refine (s_l6Good _ _ _ A _ (H.out.below (by go_grown)) (by omega)).mono ?_
  rintro e w1 ⟨rfl, hb1⟩
  rw [HA.out]
  have HB1 := hid (bstep (by go_grown) hb1 : Below w.heap.size w w1)
  have OZ := hid ((OwnI.lit0 ((w.alloc (.cells #[.slice pa 24 c] 26)).alloc (.cells #[.slice pb 24 d] 26))).below hb1)
  have T0 := hid ((hb1.block w.heap.size (by simp <;> omega)).trans (by first | (rw [Below.heap_alloc _ _ _ (by simp <;> omega), Below.heap_alloc _ _ _ (by simp)]; exact heap_alloc_new _ _) | (rw [Below.heap_alloc _ _ _ (by simp)]; exact heap_alloc_new _ _) : _ = some (.cells #[.slice pa 24 c] 26 (0, 0))))
  have T1 := hid ((hb1.block (w.heap.size + 1) (by simp <;> omega)).trans (by first | (rw [Below.heap_alloc _ _ _ (by simp)]; exact last_newP (w.alloc _) _ _ (by simp)) | exact last_newP (w.alloc _) _ _ (by simp) : _ = some (.cells #[.slice pb 24 d] 26 (0, 0))))
  have m0 : w1.cell? ⟨w.heap.size, 0, none⟩ = some (.slice pa 24 c) := by rw [cell_of_row _ _ _ _ _ (0, 0) T0.out]; rfl
  have m1 : w1.cell? ⟨w.heap.size + 1, 0, none⟩ = some (.slice pb 24 d) := by rw [cell_of_row _ _ _ _ _ (0, 0) T1.out]; rfl
  have hz0 := (Array.getElem?_eq_some_iff.1 T0.out).1
  have hz1 := (Array.getElem?_eq_some_iff.1 T1.out).1
  clear hb1
  go_wp2_with fail
  refine (s_l6Good _ _ _ B _ (H'.out.below HB1.out) (by omega)).mono ?_
  rintro e w2 ⟨rfl, hb2⟩
  rw [HB.out]
  have HB2 := hid (bstep HB1.out hb2)
  have T02 := hid ((hb2.block _ hz0).trans T0.out)
  have T12 := hid ((hb2.block _ hz1).trans T1.out)
  have OY := hid (OZ.out.below hb2)
  clear hb2 m0 m1 OZ
  have hz02 := (Array.getElem?_eq_some_iff.1 T02.out).1
  have hz12 := (Array.getElem?_eq_some_iff.1 T12.out).1
  go_wp2_with fail
  refine (s_l1In _ _ _ _).mono ?_
  rintro e _ ⟨rfl, rfl⟩
  rw [HS.out]
  simp only [World.size_alloc] at OY
  go_wp2
  go_loopg [8, 9] 24 (fun gm o i wr => ∃ (k : Nat) (a' : Option Addr) (c' : Nat), k ≤ 24 ∧ gm = 24 - k ∧ i = .int .i64 k ∧ o = .slice a' k c' ∧ Hid (OwnI wr (w.heap.size + 1 + 1) (.slice a' k c') (mixL A B s k) ∧ Below (w.heap.size + 1 + 1) w2 wr))
  case atStart => exact ⟨0, _, 0, Nat.zero_le _, rfl, rfl, rfl, hid ⟨OY.out, Below.refl _ _⟩⟩
  case round =>
    obtain ⟨k, a', c', hk, rfl, rfl, rfl, hh⟩ := hrel
    have hzw := hh.out.2.size
    have BR := hid (HB2.out.trans (hh.out.2.mono (by omega)))
    have m0 : wr.cell? ⟨w.heap.size, 0, none⟩ = some (.slice pa 24 c) := by rw [cell_of_row _ _ _ _ _ (0, 0) ((hh.out.2.block _ (by omega)).trans T02.out)]; rfl
    have m1 : wr.cell? ⟨w.heap.size + 1, 0, none⟩ = some (.slice pb 24 d) := by rw [cell_of_row _ _ _ _ _ (0, 0) ((hh.out.2.block _ (by omega)).trans T12.out)]; rfl
    have hz0r : w.heap.size < wr.heap.size := by omega
    have hz1r : w.heap.size + 1 < wr.heap.size := by omega
    by_cases hlt : k < 24
    · obtain ⟨ba, oa, rfl, hba, hcA⟩ := (H.out.below BR.out).2 k hlt
      obtain ⟨bb, ob, rfl, hbb, hcB⟩ := (H'.out.below BR.out).2 k hlt
      have hv1 := HA2.out k hlt
      have hv2 := HB3.out k hlt
      have q1 := mul_in (x := el A k) (y := s) (A := 1000) (B := 100) (by omega) (by omega)
      have q2 := mul_in (x := el B k) (y := 100 - s) (A := 1000) (B := 100) (by omega) (by omega)
      simp only [Int.reduceMul] at q1 q2
      have HMS := hid (mixL_succ A B s k)
      have hcA2 : wr.cell? ⟨ba, oa + k, none⟩ = some (.int .i64 (el A k)) := hcA
      have hcB2 : wr.cell? ⟨bb, ob + k, none⟩ = some (.int .i64 (el B k)) := hcB
      obtain ⟨va, hva⟩ : ∃ v, el A k = v := ⟨_, rfl⟩
      obtain ⟨vb, hvb⟩ : ∃ v, el B k = v := ⟨_, rfl⟩
      rw [hva] at hcA2 q1 HMS hv1
      rw [hvb] at hcB2 q2 HMS hv2
      have HVA := hid hva
      have HVB := hid hvb
      clear hcA hcB hva hvb
      have hw1 := IntWalk.i64_in (va * s) (by omega)
      have hw2 := IntWalk.i64_in (100 - s) (by omega)
      have hw3 := IntWalk.i64_in (vb * (100 - s)) (by omega)
      have hw4 := IntWalk.i64_in (va * s + vb * (100 - s)) (by omega)
      have hwk : IntKind.i64.wrap ((k : Int) + 1) = ((k + 1 : Nat) : Int) := by rw [IntWalk.i64_in _ (by omega)]; omega
      go_upto_region 7 with fail
      refine wp_region_noPanic ?_
      refine wp_region_held_drew (S := (fun w' => w'.cell? ⟨w.heap.size, 0, none⟩ = some (.slice (some ⟨ba, oa, none⟩) 24 c) ∧ w'.cell? ⟨w.heap.size + 1, 0, none⟩ = some (.slice (some ⟨bb, ob, none⟩) 24 d) ∧ w'.cell? ⟨ba, oa + k, none⟩ = some (.int .i64 va) ∧ w'.cell? ⟨bb, ob + k, none⟩ = some (.int .i64 vb))) (by kernel_rfl) (by exact ⟨m0, m1, hcA2, hcB2⟩) (fun hHeld => ?_)
      refine wpAnyH_take' (i := 0) (v := ?_) rfl (by kernel_rfl) (by kernel_rfl) (by kernel_rfl) (fun _ _ _ h => h) (Or.inl ⟨by rfl, ?_⟩) (by assumption) ?_
      rotate_left
      · (intro w' hSw; (try dsimp only at hSw); go_simp; all_goals with_reducible rfl)
      try simp only [Act.put, List.setIfInBounds_toArray, List.set_cons_zero, List.set_cons_succ]
      refine wpAnyH_take' (i := 1) (v := ?_) rfl (by kernel_rfl) (by kernel_rfl) (by kernel_rfl) (fun _ _ _ h => h) (Or.inl ⟨by rfl, ?_⟩) (by assumption) ?_
      rotate_left
      · (intro w' hSw; (try dsimp only at hSw); go_simp; all_goals with_reducible rfl)
      try simp only [Act.put, List.setIfInBounds_toArray, List.set_cons_zero, List.set_cons_succ]
      refine wpAnyH_take' (i := 2) (v := ?_) rfl (by kernel_rfl) (by kernel_rfl) (by kernel_rfl) (fun _ _ _ h => h) (Or.inl ⟨by rfl, ?_⟩) (by assumption) ?_
      rotate_left
      · (intro w' hSw; (try dsimp only at hSw); go_simp; all_goals with_reducible rfl)
      try simp only [Act.put, List.setIfInBounds_toArray, List.set_cons_zero, List.set_cons_succ]
      refine wpAnyH_take' (i := 3) (v := ?_) rfl (by kernel_rfl) (by kernel_rfl) (by kernel_rfl) (fun _ _ _ h => h) (Or.inl ⟨by rfl, ?_⟩) (by assumption) ?_
      rotate_left
      · (intro w' hSw; (try dsimp only at hSw); go_simp; all_goals with_reducible rfl)
      try simp only [Act.put, List.setIfInBounds_toArray, List.set_cons_zero, List.set_cons_succ]
      refine wpAnyH_take' (i := 4) (v := ?_) rfl (by kernel_rfl) (by kernel_rfl) (by kernel_rfl) (fun _ _ _ h => h) (Or.inl ⟨by rfl, ?_⟩) (by assumption) ?_
      rotate_left
      · (intro w' hSw; (try dsimp only at hSw); go_simp; all_goals with_reducible rfl)
      try simp only [Act.put, List.setIfInBounds_toArray, List.set_cons_zero, List.set_cons_succ]
      refine wpAnyH_take' (i := 5) (v := ?_) rfl (by kernel_rfl) (by kernel_rfl) (by kernel_rfl) (fun _ _ _ h => h) (Or.inl ⟨by rfl, ?_⟩) (by assumption) ?_
      rotate_left
      · (intro w' hSw; (try dsimp only at hSw); go_simp; all_goals with_reducible rfl)
      try simp only [Act.put, List.setIfInBounds_toArray, List.set_cons_zero, List.set_cons_succ]
      refine wpAnyH_take' (i := 6) (v := ?_) rfl (by kernel_rfl) (by kernel_rfl) (by kernel_rfl) (fun _ _ _ h => h) (Or.inl ⟨by rfl, ?_⟩) (by assumption) ?_
      rotate_left
      · (intro w' hSw; (try dsimp only at hSw); go_simp; all_goals with_reducible rfl)
      try simp only [Act.put, List.setIfInBounds_toArray, List.set_cons_zero, List.set_cons_succ]
      refine wpAnyH_take' (i := 7) (v := ?_) rfl (by kernel_rfl) (by kernel_rfl) (by kernel_rfl) (fun _ _ _ h => h) (Or.inl ⟨by rfl, ?_⟩) (by assumption) ?_
      rotate_left
      · (intro w' hSw; (try dsimp only at hSw); go_simp; all_goals with_reducible rfl)
      try simp only [Act.put, List.setIfInBounds_toArray, List.set_cons_zero, List.set_cons_succ]
      refine wpAnyH_take' (i := 8) (v := ?_) rfl (by kernel_rfl) (by kernel_rfl) (by kernel_rfl) (fun _ _ _ h => h) (Or.inl ⟨by rfl, ?_⟩) (by assumption) ?_
      rotate_left
      · (intro w' hSw; (try dsimp only at hSw); go_simp; all_goals with_reducible rfl)
      try simp only [Act.put, List.setIfInBounds_toArray, List.set_cons_zero, List.set_cons_succ]
      refine wpAnyH_take' (i := 9) (v := ?_) rfl (by kernel_rfl) (by kernel_rfl) (by kernel_rfl) (fun _ _ _ h => h) (Or.inl ⟨by rfl, ?_⟩) (by assumption) ?_
      rotate_left
      · (intro w' hSw; (try dsimp only at hSw); go_simp; all_goals with_reducible rfl)
      try simp only [Act.put, List.setIfInBounds_toArray, List.set_cons_zero, List.set_cons_succ]
      refine wpAnyH_take' (i := 10) (v := ?_) rfl (by kernel_rfl) (by kernel_rfl) (by kernel_rfl) (fun _ _ _ h => h) (Or.inl ⟨by rfl, ?_⟩) (by assumption) ?_
      rotate_left
      · (intro w' hSw; (try dsimp only at hSw); go_simp; all_goals with_reducible rfl)
      try simp only [Act.put, List.setIfInBounds_toArray, List.set_cons_zero, List.set_cons_succ]
      refine wpAnyH_take' (i := 11) (v := ?_) rfl (by kernel_rfl) (by kernel_rfl) (by kernel_rfl) (fun _ _ _ h => h) (Or.inl ⟨by rfl, ?_⟩) (by assumption) ?_
      rotate_left
      · (intro w' hSw; (try dsimp only at hSw); go_simp; all_goals with_reducible rfl)
      try simp only [Act.put, List.setIfInBounds_toArray, List.set_cons_zero, List.set_cons_succ]
      refine wpAnyH_take' (i := 12) (v := ?_) rfl (by kernel_rfl) (by kernel_rfl) (by kernel_rfl) (fun _ _ _ h => h) (Or.inl ⟨by rfl, ?_⟩) (by assumption) ?_
      rotate_left
      · (intro w' hSw; (try dsimp only at hSw); go_simp; all_goals with_reducible rfl)
      try simp only [Act.put, List.setIfInBounds_toArray, List.set_cons_zero, List.set_cons_succ]
      refine wpAnyH_take' (i := 13) (v := ?_) rfl (by kernel_rfl) (by kernel_rfl) (by kernel_rfl) (fun _ _ _ h => h) (Or.inl ⟨by rfl, ?_⟩) (by assumption) ?_
      rotate_left
      · (intro w' hSw; (try dsimp only at hSw); go_simp; all_goals with_reducible rfl)
      try simp only [Act.put, List.setIfInBounds_toArray, List.set_cons_zero, List.set_cons_succ]
      refine wpAnyH_take' (i := 14) (v := ?_) rfl (by kernel_rfl) (by kernel_rfl) (by kernel_rfl) (fun _ _ _ h => h) (Or.inl ⟨by rfl, ?_⟩) (by assumption) ?_
      rotate_left
      · (intro w' hSw; (try dsimp only at hSw); go_simp; all_goals with_reducible rfl)
      try simp only [Act.put, List.setIfInBounds_toArray, List.set_cons_zero, List.set_cons_succ]
      refine wpAnyH_take' (i := 15) (v := ?_) rfl (by kernel_rfl) (by kernel_rfl) (by kernel_rfl) (fun _ _ _ h => h) (Or.inl ⟨by rfl, ?_⟩) (by assumption) ?_
      rotate_left
      · (intro w' hSw; (try dsimp only at hSw); go_simp; all_goals with_reducible rfl)
      try simp only [Act.put, List.setIfInBounds_toArray, List.set_cons_zero, List.set_cons_succ]
      refine wpAnyH_take' (i := 16) (v := ?_) rfl (by kernel_rfl) (by kernel_rfl) (by kernel_rfl) (fun _ _ _ h => h) (Or.inl ⟨by rfl, ?_⟩) (by assumption) ?_
      rotate_left
      · (intro w' hSw; (try dsimp only at hSw); go_simp; all_goals with_reducible rfl)
      try simp only [Act.put, List.setIfInBounds_toArray, List.set_cons_zero, List.set_cons_succ]
      refine wpAnyH_ready (rs := [17]) (by kernel_rfl) (by simp) ?_
      refine allReadyH_cons' rfl (fun Kn hKn => ?_) AllReadyH.nil
      go_simp
      have B1 := hid (by go_grown : Below wr.heap.size wr ((wr.alloc (.cells #[.int .i64 (va * s + vb * (100 - s))] 3)).drew))
      have I1 := hid (show IntsAt ((wr.alloc (.cells #[.int .i64 (va * s + vb * (100 - s))] 3)).drew) (some ⟨wr.heap.size, 0, none⟩) 1 [va * s + vb * (100 - s)] from (IntsAt.single wr _).below ((Below.refl _ _).drew))
      have O1 := hid (hh.out.1.below B1.out)
      refine hKn.out _ _ ⟨((bcell B1.out).1 _ _ hz0r).trans m0, ((bcell B1.out).1 _ _ hz1r).trans m1, ((bcell B1.out).1 _ _ hba).trans hcA2, ((bcell B1.out).1 _ _ hbb).trans hcB2⟩ (fun hHeldN => ?_)
      clear hKn Kn hHeld
      have hHeld := hHeldN
      clear hHeldN
      try simp only [Act.put, List.setIfInBounds_toArray, List.set_cons_zero, List.set_cons_succ]
      generalize (wr.alloc (.cells #[.int .i64 (va * s + vb * (100 - s))] 3)).drew = w4 at *
      refine wpAnyH_ready (rs := [18]) (by kernel_rfl) (by simp) ?_
      refine allReadyH_cons' rfl (fun Kn hKn => ?_) AllReadyH.nil
      refine step_append_i (by rfl) _ _ (by rfl) (w.heap.size + 1 + 1) _ (mixL A B s k) (by rfl) O1.out _ 1 _ [va * s + vb * (100 - s)] (by rfl) I1.out (k + 1) (by rw [mixL_len]) (by omega) (by have := B1.out.size; omega) ?_
      intro a2 c2 w5 hown hgrow hblk
      have S5 := hid (show OwnI w5 (w.heap.size + 1 + 1) (.slice a2 (k + 1) c2) (mixL A B s (k + 1)) ∧ Below (w.heap.size + 1 + 1) w2 w5 from ⟨by rw [HMS.out]; exact hown, (hh.out.2.trans (B1.out.mono (by omega))).grown hgrow (by have := B1.out.size; omega) (fun q e => (O1.out.lt q e).1)⟩)
      have BR5 := hid (HB2.out.trans (S5.out.2.mono (by omega)))
      have y0 : w5.cell? ⟨w.heap.size, 0, none⟩ = some (.slice (some ⟨ba, oa, none⟩) 24 c) := by rw [cell_of_row _ _ _ _ _ (0, 0) ((S5.out.2.block _ (by omega)).trans T02.out)]; rfl
      have y1 : w5.cell? ⟨w.heap.size + 1, 0, none⟩ = some (.slice (some ⟨bb, ob, none⟩) 24 d) := by rw [cell_of_row _ _ _ _ _ (0, 0) ((S5.out.2.block _ (by omega)).trans T12.out)]; rfl
      obtain ⟨_, _, e1, _, y2⟩ := (H.out.below BR5.out).2 k hlt
      simp only [Option.some.injEq, Addr.mk.injEq, and_true] at e1
      obtain ⟨rfl, rfl⟩ := e1
      obtain ⟨_, _, e2, _, y3⟩ := (H'.out.below BR5.out).2 k hlt
      simp only [Option.some.injEq, Addr.mk.injEq, and_true] at e2
      obtain ⟨rfl, rfl⟩ := e2
      have y2 : w5.cell? ⟨_, _, none⟩ = some (.int .i64 (el A k)) := y2
      have y3 : w5.cell? ⟨_, _, none⟩ = some (.int .i64 (el B k)) := y3
      rw [HVA.out] at y2
      rw [HVB.out] at y3
      clear hown hgrow hblk
      refine hKn.out _ _ ⟨y0, y1, y2, y3⟩ (fun hHeldN => ?_)
      clear hKn Kn hHeld
      have hHeld := hHeldN
      clear hHeldN
      try simp only [Act.put, List.setIfInBounds_toArray, List.set_cons_zero, List.set_cons_succ]
      refine wpAnyH_take' (i := 19) (v := ?_) rfl (by kernel_rfl) (by kernel_rfl) (by kernel_rfl) (fun _ _ _ h => h) (Or.inl ⟨by rfl, ?_⟩) (by assumption) ?_
      rotate_left
      · (intro w' hSw; (try dsimp only at hSw); go_simp; all_goals with_reducible rfl)
      try simp only [Act.put, List.setIfInBounds_toArray, List.set_cons_zero, List.set_cons_succ]
      refine wpAnyH_done (by kernel_rfl) ?_ _
      refine NoPanic.normal ?_
      clear hHeld
      clear y0 y1 y2 y3 m0 m1 hcA2 hcB2
      go_wp2
      go_roundg (24 - (k + 1))
      case rel => exact ⟨k + 1, _, _, by omega, rfl, rfl, rfl, S5⟩
      case measure => omega
    · obtain rfl : k = 24 := by omega
      go_wp2
      go_ret2
      exact ⟨_, _, rfl, hh.out.1.mono (by omega), BR.out⟩

theorem i_MixProfiles (pa pb : Option Addr) (n c m d : Nat) (A B : List Int) (s : Int) (w : World) (h : IntsAt w pa n A) (h' : IntsAt w pb m B) (hn : n ≤ 1048576) (hm : m ≤ 1048576) (R : List Int) (b : Bool) (hR : mixR A B s = (R, b)) :
    Calls Try.prog 43 #[.agg #[.slice pa n c], .agg #[.slice pb m d], .int .i64 s] w fun e w' => ∃ a' c', e = .returned (.tuple #[.slice a' R.length c', .bool b]) ∧ OwnI w' w.heap.size (.slice a' R.length c') R ∧ Below w.heap.size w w' := by
  cases hv : (goodProf A && goodProf B && inR s 0 100)
  · unfold mixR at hR
    rw [hv] at hR
    simp only [Bool.false_eq_true, if_false, Prod.mk.injEq] at hR
    obtain ⟨rfl, rfl⟩ := hR
    exact i_MixProfiles_no pa pb n c m d A B s w h h' hn hm hv
  · unfold mixR at hR
    rw [hv] at hR
    simp only [if_true, Prod.mk.injEq] at hR
    obtain ⟨rfl, rfl⟩ := hR
    simp only [Bool.and_eq_true] at hv
    rw [mixL_len]
    exact i_MixProfiles_yes pa pb n c m d A B s w h h' hv.1.1 hv.1.2 hv.2
theorem s_MixProfiles (pa pb : Option Addr) (n c m d : Nat) (A B : List Int) (s : Int) (w : World) (h : IntsAt w pa n A) (h' : IntsAt w pb m B) (hn : n ≤ 1048576) (hm : m ≤ 1048576) (R : List Int) (b : Bool) (hR : mixR A B s = (R, b)) :
    Calls Try.prog 44 #[.agg #[.slice pa n c], .agg #[.slice pb m d], .int .i64 s] w fun e w' => ∃ a' c', e = .returned (.tuple #[.slice a' R.length c', .bool b]) ∧ OwnI w' w.heap.size (.slice a' R.length c') R ∧ Below w.heap.size w w' := by
  cases hv : (goodProf A && goodProf B && inR s 0 100)
  · unfold mixR at hR
    rw [hv] at hR
    simp only [Bool.false_eq_true, if_false, Prod.mk.injEq] at hR
    obtain ⟨rfl, rfl⟩ := hR
    exact s_MixProfiles_no pa pb n c m d A B s w h h' hn hm hv
  · unfold mixR at hR
    rw [hv] at hR
    simp only [if_true, Prod.mk.injEq] at hR
    obtain ⟨rfl, rfl⟩ := hR
    simp only [Bool.and_eq_true] at hv
    rw [mixL_len]
    exact s_MixProfiles_yes pa pb n c m d A B s w h h' hv.1.1 hv.1.2 hv.2

end Go.Proofs.Ytpmffboojkfpdaa

/-
  What the laws on codes ask of their own helpers.
-/
set_option linter.unusedVariables false
set_option linter.unusedSimpArgs false
namespace Go.Proofs.Ytpmffboojkfpdaa
open Go.RowKit

theorem l_vBig (a : Option Addr) (n c : Nat) (w : World) : Calls Try.prog 55 #[.slice a n c] w fun e w' => e = .returned (.bool (decide (65536 < n))) ∧ w = w' := by
  go_enter Try.func55, Try.ntmps55
  go_wp2
  go_ret
  exact ⟨ret_bool (by simp <;> omega), rfl⟩
theorem l_rBig (a : Option Addr) (n c : Nat) (w : World) : Calls Try.prog 28 #[.slice a n c] w fun e w' => e = .returned (.bool (decide (65536 < n))) ∧ w = w' := by
  go_enter Try.func28, Try.ntmps28
  go_wp2
  go_ret
  exact ⟨ret_bool (by simp <;> omega), rfl⟩
theorem l_vInts_same (a b : Option Addr) (n c d : Nat) (l : List Int) (w : World) (h : IntsAt w a n l) (h' : IntsAt w b n l) (hn : n ≤ 4194304) :
    Calls Try.prog 57 #[.slice a n c, .slice b n d] w fun e w' => e = .returned (.bool true) ∧ Below w.heap.size w w' := by
  have h1 := l_vInts_eq a b n c d l l w h h' hn
  rwa [decide_eq_true (rfl : l = l)] at h1
theorem l_rInts_same (a b : Option Addr) (n c d : Nat) (l : List Int) (w : World) (h : IntsAt w a n l) (h' : IntsAt w b n l) (hn : n ≤ 4194304) :
    Calls Try.prog 30 #[.slice a n c, .slice b n d] w fun e w' => e = .returned (.bool true) ∧ Below w.heap.size w w' := by
  have h1 := l_rInts_eq a b n c d l l w h h' hn
  rwa [decide_eq_true (rfl : l = l)] at h1

end Go.Proofs.Ytpmffboojkfpdaa

