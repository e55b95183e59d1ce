/-
  Texts of this claim, joined: NetD, TreeW, Node, CurN6.
-/
import Derived.Test.YtlnhikhpkcgegaaLo1
import Derived.Test.YtlnhikhpkcgegaaLo3
import Derived.Test.YtlnhikhpkcgegaaLo6
import Derived.Test.YtlnhikhpkcgegaaLo9
/-
  Demands and flows: which are valid.
-/
set_option linter.unusedVariables false
set_option linter.unusedSimpArgs false
namespace Go.Proofs.Ytlnhikhpkcgegaa
open Go.RowKit

theorem any_in {l : List Int} {lo hi : Int} : (l.any fun x => !inR x lo hi) = false ↔ ∀ x ∈ l, lo ≤ x ∧ x ≤ hi := by
  rw [List.any_eq_false]
  constructor
  · intro h x hx
    have := h x hx
    simp only [Bool.not_eq_true, Bool.not_eq_false'] at this
    exact inR_iff.1 this
  · intro h x hx
    simp [inR_iff.2 (h x hx)]
def goodDem (N : Int) (l : List Int) : Bool := decide ((l.length : Int) = N) && !l.any (fun x => !inR x 0 1000)
def goodFl (n : Nat) (l : List Int) : Bool := decide (l.length = n) && !l.any (fun x => !inR x (-8000) 8000)
theorem goodDem_iff {N : Int} {l : List Int} : goodDem N l = true ↔ (l.length : Int) = N ∧ ∀ x ∈ l, 0 ≤ x ∧ x ≤ 1000 := by simp only [goodDem, Bool.and_eq_true, decide_eq_true_eq, Bool.not_eq_true', any_in]
theorem goodFl_iff {n : Nat} {l : List Int} : goodFl n l = true ↔ l.length = n ∧ ∀ x ∈ l, -8000 ≤ x ∧ x ≤ 8000 := by simp only [goodFl, Bool.and_eq_true, decide_eq_true_eq, Bool.not_eq_true', any_in]

theorem enters_i_areDemands : enters 150 := by intro args w; kernel_rfl
theorem i_areDemands1 (x : Int) (w : World) : Calls Try.prog 150 #[.int .i64 x] w fun e w' => e = .returned (.bool (!inR x 0 1000)) ∧ Below w.heap.size w w' := by
  go_enter Try.func150, Try.ntmps150
  go_wp2_with fail
  refine (i_inside _ _ _ _).mono ?_
  rintro e w' ⟨rfl, rfl⟩
  go_wp2
  go_ret
  exact ⟨rfl, by go_grown⟩
theorem i_areDemands (N : Int) (a b : Option Addr) (n c m d : Nat) (l : List Int) (w : World) (h : IntsAt w b m l) (hm : m ≤ 1048576) :
    Calls Try.prog 74 #[.agg #[.int .i64 N, .slice a n c], .slice b m d] w fun e w' => e = .returned (.bool (goodDem N l)) ∧ Below w.heap.size w w' := by
  have hl := h.1
  have H := hid h
  clear h
  by_cases h1 : (m : Int) = N
  · have E := hid (show (!l.any (fun x => !inR x 0 1000)) = goodDem N l by simp [goodDem, goodFl, hl, h1])
    clear hl
    skip
    go_enter Try.func74, Try.ntmps74
    go_wp2_with fail
    refine (f_ContainsFunc 150 #[] (fun x => !inR x 0 1000) enters_i_areDemands b m d l _ (H.out.below (by go_grown)) (by omega) (fun x w' _ _ => i_areDemands1 x w')).mono ?_
    rintro e w1 ⟨rfl, hb1⟩
    go_wp2
    go_ret
    exact ⟨ret_bool E.out, bstep (by go_grown) hb1⟩
  · have E := hid (show false = goodDem N l by simp [goodDem, goodFl, hl, h1])
    go_enter Try.func74, Try.ntmps74
    go_wp2
    go_ret
    exact ⟨ret_bool E.out, by go_grown⟩
theorem enters_i_areFlows : enters 158 := by intro args w; kernel_rfl
theorem i_areFlows1 (x : Int) (w : World) : Calls Try.prog 158 #[.int .i64 x] w fun e w' => e = .returned (.bool (!inR x (-8000) 8000)) ∧ Below w.heap.size w w' := by
  go_enter Try.func158, Try.ntmps158
  go_wp2_with fail
  refine (i_inside _ _ _ _).mono ?_
  rintro e w' ⟨rfl, rfl⟩
  go_wp2
  go_ret
  exact ⟨rfl, by go_grown⟩
theorem i_areFlows (N : Int) (a b : Option Addr) (n c m d : Nat) (l : List Int) (w : World) (h : IntsAt w b m l) (hm : m ≤ 1048576) :
    Calls Try.prog 107 #[.agg #[.int .i64 N, .slice a n c], .slice b m d] w fun e w' => e = .returned (.bool (goodFl n l)) ∧ Below w.heap.size w w' := by
  have hl := h.1
  have H := hid h
  clear h
  by_cases h1 : m = n
  · have E := hid (show (!l.any (fun x => !inR x (-8000) 8000)) = goodFl n l by simp [goodDem, goodFl, hl, h1])
    clear hl
    subst h1
    go_enter Try.func107, Try.ntmps107
    go_wp2_with fail
    refine (f_ContainsFunc 158 #[] (fun x => !inR x (-8000) 8000) enters_i_areFlows b m d l _ (H.out.below (by go_grown)) (by omega) (fun x w' _ _ => i_areFlows1 x w')).mono ?_
    rintro e w1 ⟨rfl, hb1⟩
    go_wp2
    go_ret
    exact ⟨ret_bool E.out, bstep (by go_grown) hb1⟩
  · have E := hid (show false = goodFl n l by simp [goodDem, goodFl, hl, h1])
    go_enter Try.func107, Try.ntmps107
    go_wp2
    go_ret
    exact ⟨ret_bool E.out, by go_grown⟩
set_option maxHeartbeats 1000000 in
theorem s_l8Demands (N : Int) (a b : Option Addr) (n c m d : Nat) (l : List Int) (w : World) (h : IntsAt w b m l) (hm : m ≤ 1048576) :
    Calls Try.prog 68 #[.agg #[.int .i64 N, .slice a n c], .slice b m d] w fun e w' => e = .returned (.bool (goodDem N l)) ∧ Below w.heap.size w w' := by
  have H := hid h
  have HL := hid h.1
  clear h
  go_enter Try.func68, Try.ntmps68
  go_wp2
  go_loopg [5] m (fun g i wr => ∃ k : Nat, k ≤ m ∧ g = m - k ∧ i = .int .i64 k ∧ wr = w.alloc (.cells #[.int .i64 N, .slice a n c] 26) ∧ Hid (∀ x ∈ l.take k, 0 ≤ x ∧ x ≤ 1000))
  case atStart => exact ⟨0, Nat.zero_le _, rfl, rfl, rfl, hid (fun x hx => by simp at hx)⟩
  case round =>
    obtain ⟨k, hk, rfl, rfl, rfl, hh⟩ := hrel
    by_cases hlt : k < m
    · obtain ⟨b1, off, rfl, hbw, hcell⟩ := (H.out.below ((Below.refl _ _).alloc (Nat.le_refl _) (.cells #[.int .i64 N, .slice a n c] 26))).2 k hlt
      cases hx : inR (l[k]?.getD 0) 0 1000
      · have HX := hid hx
        clear hx
        go_wp2_with fail
        refine (s_l1In _ _ _ _).mono ?_
        rintro e _ ⟨rfl, rfl⟩
        rw [HX.out]
        go_wp2
        go_ret
        refine ⟨ret_bool ?_, by go_grown⟩
        have : goodDem N l ≠ true := fun e => by
          simp only [goodDem, goodFl, Bool.and_eq_true, Bool.not_eq_true', any_in] at e
          have h2 := e.2 _ (getD_mem' (k := k) (by have := HL.out; omega))
          rw [inR_iff.2 h2] at HX
          exact absurd HX.out (by simp)
        simpa using this.symm
      · have HX := hid hx
        have hx2 := inR_iff.1 hx
        clear hx
        go_wp2_with fail
        refine (s_l1In _ _ _ _).mono ?_
        rintro e _ ⟨rfl, rfl⟩
        rw [HX.out]
        go_wp2
        go_roundg (m - (k + 1))
        case rel =>
          refine ⟨k + 1, by omega, rfl, by go_num, rfl, hid ?_⟩
          intro x hx
          rw [take_succ' l k (by have := HL.out; omega), List.mem_append, List.mem_singleton] at hx
          rcases hx with hx | rfl
          · exact hh.out x hx
          · exact hx2
        case measure => omega
    · obtain rfl : m = k := by omega
      have hall : l.take m = l := List.take_of_length_le (by have := HL.out; omega)
      have ha : ∀ x ∈ l, 0 ≤ x ∧ x ≤ 1000 := hall ▸ hh.out
      have hl := HL.out
      by_cases h1 : (m : Int) = N
      · have E := hid (show true = goodDem N l by first | exact (goodDem_iff.2 ⟨by omega, ha⟩).symm | exact (goodFl_iff.2 ⟨by omega, ha⟩).symm)
        clear hall ha hl
        go_wp2
        go_ret
        exact ⟨ret_bool (by first | exact E.out | (rw [← E.out]; simp; omega)), by go_grown⟩
      · have E := hid (show false = goodDem N l by first | exact (Bool.eq_false_iff.2 fun e => h1 (by have := (goodDem_iff.1 e).1; omega)).symm | exact (Bool.eq_false_iff.2 fun e => h1 (by have := (goodFl_iff.1 e).1; omega)).symm)
        clear hall ha hl
        go_wp2
        go_ret
        exact ⟨ret_bool (by first | exact E.out | (rw [← E.out]; simp; omega)), by go_grown⟩
set_option maxHeartbeats 1000000 in
theorem s_l8Flows (N : Int) (a b : Option Addr) (n c m d : Nat) (l : List Int) (w : World) (h : IntsAt w b m l) (hm : m ≤ 1048576) :
    Calls Try.prog 90 #[.agg #[.int .i64 N, .slice a n c], .slice b m d] w fun e w' => e = .returned (.bool (goodFl n l)) ∧ Below w.heap.size w w' := by
  have H := hid h
  have HL := hid h.1
  clear h
  go_enter Try.func90, Try.ntmps90
  go_wp2
  go_loopg [5] m (fun g i wr => ∃ k : Nat, k ≤ m ∧ g = m - k ∧ i = .int .i64 k ∧ wr = w.alloc (.cells #[.int .i64 N, .slice a n c] 26) ∧ Hid (∀ x ∈ l.take k, (-8000) ≤ x ∧ x ≤ 8000))
  case atStart => exact ⟨0, Nat.zero_le _, rfl, rfl, rfl, hid (fun x hx => by simp at hx)⟩
  case round =>
    obtain ⟨k, hk, rfl, rfl, rfl, hh⟩ := hrel
    by_cases hlt : k < m
    · obtain ⟨b1, off, rfl, hbw, hcell⟩ := (H.out.below ((Below.refl _ _).alloc (Nat.le_refl _) (.cells #[.int .i64 N, .slice a n c] 26))).2 k hlt
      cases hx : inR (l[k]?.getD 0) (-8000) 8000
      · have HX := hid hx
        clear hx
        go_wp2_with fail
        refine (s_l1In _ _ _ _).mono ?_
        rintro e _ ⟨rfl, rfl⟩
        rw [HX.out]
        go_wp2
        go_ret
        refine ⟨ret_bool ?_, by go_grown⟩
        have : goodFl n l ≠ true := fun e => by
          simp only [goodDem, goodFl, Bool.and_eq_true, Bool.not_eq_true', any_in] at e
          have h2 := e.2 _ (getD_mem' (k := k) (by have := HL.out; omega))
          rw [inR_iff.2 h2] at HX
          exact absurd HX.out (by simp)
        simpa using this.symm
      · have HX := hid hx
        have hx2 := inR_iff.1 hx
        clear hx
        go_wp2_with fail
        refine (s_l1In _ _ _ _).mono ?_
        rintro e _ ⟨rfl, rfl⟩
        rw [HX.out]
        go_wp2
        go_roundg (m - (k + 1))
        case rel =>
          refine ⟨k + 1, by omega, rfl, by go_num, rfl, hid ?_⟩
          intro x hx
          rw [take_succ' l k (by have := HL.out; omega), List.mem_append, List.mem_singleton] at hx
          rcases hx with hx | rfl
          · exact hh.out x hx
          · exact hx2
        case measure => omega
    · obtain rfl : m = k := by omega
      have hall : l.take m = l := List.take_of_length_le (by have := HL.out; omega)
      have ha : ∀ x ∈ l, (-8000) ≤ x ∧ x ≤ 8000 := hall ▸ hh.out
      have hl := HL.out
      by_cases h1 : m = n
      · have E := hid (show true = goodFl n l by first | exact (goodDem_iff.2 ⟨by omega, ha⟩).symm | exact (goodFl_iff.2 ⟨by omega, ha⟩).symm)
        clear hall ha hl
        go_wp2
        go_ret
        exact ⟨ret_bool (by first | exact E.out | (rw [← E.out]; simp; omega)), by go_grown⟩
      · have E := hid (show false = goodFl n l by first | exact (Bool.eq_false_iff.2 fun e => h1 (by have := (goodDem_iff.1 e).1; omega)).symm | exact (Bool.eq_false_iff.2 fun e => h1 (by have := (goodFl_iff.1 e).1; omega)).symm)
        clear hall ha hl
        go_wp2
        go_ret
        exact ⟨ret_bool (by first | exact E.out | (rw [← E.out]; simp; omega)), by go_grown⟩

end Go.Proofs.Ytlnhikhpkcgegaa

/-
  The flows of a tree: in the program and in the reference.
-/
set_option linter.unusedVariables false
set_option linter.unusedSimpArgs false
namespace Go.Proofs.Ytlnhikhpkcgegaa
open Go.RowKit

theorem tflow_dry {M : Nat} {l : List Pip} {s : Int} {ds : List Int} {i : Nat} (h : (distL M l (pp l i).1 s)[(pp l i).2.2.1.toNat]?.getD 0 < 0) : tflow M l s ds i = dsum (distL M l (pp l i).1 s) ds M := by simp [tflow, h]
theorem tflow_wet {M : Nat} {l : List Pip} {s : Int} {ds : List Int} {i : Nat} (h : ¬ (distL M l (pp l i).1 s)[(pp l i).2.2.1.toNat]?.getD 0 < 0) : tflow M l s ds i = -(dsum (distL M l (pp l i).1 s) ds M) := by simp [tflow, h]

set_option maxRecDepth 100000 in
set_option maxHeartbeats 4000000 in
theorem i_treeFlows (M : Nat) (s : Int) (a p : Option Addr) (n c d : Nat) (l : List Pip) (ds : List Int) (w : World) (h : QAt w a n l) (h' : IntsAt w p M ds) (hg : goodNet M l = true) (hs : 1 ≤ s ∧ s ≤ M) (hd : ∀ x ∈ ds, 0 ≤ x ∧ x ≤ 1000) :
    Calls Try.prog 66 #[.agg #[.int .i64 M, .slice a n c], .int .i64 s, .slice p M d] w fun e w' => ∃ a' c', e = .returned (.slice a' n c') ∧ OwnI w' w.heap.size (.slice a' n c') (tflows M l s ds n) ∧ Below w.heap.size w w' := by
  have hM : M ≤ 8 := by have := (goodNet_get hg).1; omega
  have hn : n ≤ 10 := by have := (goodNet_get hg).2.1; have := h.1; omega
  have HLN := hid h.1
  have HDL := hid h'.1
  have H := hid h
  have H' := hid h'
  have HG := hid hg
  have HS := hid hs
  have HD := hid hd
  clear h h' hg hs hd
  go_enter Try.func66, Try.ntmps66
  go_upto_region 1 with fail
  have BA := hid (by go_grown : Below w.heap.size w (w.alloc (.cells #[.int .i64 M, .slice a n c] 26)))
  have N0 := hid (cell_of_row _ _ 0 _ _ (0, 0) (heap_alloc_new w (.cells #[.int .i64 M, .slice a n c] 26)))
  have N1 := hid (cell_of_row _ _ 1 _ _ (0, 0) (heap_alloc_new w (.cells #[.int .i64 M, .slice a n c] 26)))
  have hzA : w.heap.size < (w.alloc (.cells #[.int .i64 M, .slice a n c] 26)).heap.size := by simp
  have n0 := N0.out
  have n1 := N1.out
  simp only [List.getElem?_toArray, List.getElem?_cons_zero, List.getElem?_cons_succ] at n0 n1
  generalize w.alloc (.cells #[.int .i64 M, .slice a n c] 26) = wA at *
  go_wp2
  go_loopg [7, 18] n (fun g o i wr => ∃ (k : Nat) (a' : Option Addr) (c' : Nat), k ≤ n ∧ g = n - k ∧ i = .int .i64 k ∧ o = .slice a' k c' ∧ Hid (OwnI wr wA.heap.size (.slice a' k c') (tflows M l s ds k) ∧ Below wA.heap.size wA wr))
  case atStart => exact ⟨0, _, 0, Nat.zero_le _, rfl, rfl, rfl, hid ⟨by simpa [tflows] using OwnI.lit0 wA, by go_grown⟩⟩
  case round =>
    obtain ⟨k, a', c', hk, rfl, rfl, rfl, hh⟩ := hrel
    obtain ⟨W0, hW0⟩ : ∃ W, W = wr := ⟨_, rfl⟩
    subst hW0
    have n0 := (hh.out.2.cell (p := ⟨w.heap.size, 0, none⟩) hzA).trans N0.out
    have n1 := (hh.out.2.cell (p := ⟨w.heap.size, 1, none⟩) hzA).trans N1.out
    have hz0 : w.heap.size < W0.heap.size := World.block_lt_of_cell? W0 _ n0
    by_cases hlt : k < n
    · obtain ⟨b0, off0, rfl, hbw, x0, x1, x2, x3⟩ := QAt.get (H.out.below (bstep BA.out hh.out.2)) k hlt
      have hkl : k < l.length := by have := HLN.out; omega
      have HP := hid (goodNet_pipe HG.out hkl)
      obtain ⟨t, ht⟩ : ∃ t : Nat, (pp l k).2.2.1 = t := ⟨(pp l k).2.2.1.toNat, by have := HP.out.2.2.1; omega⟩
      have ht1 : 1 ≤ t ∧ t ≤ M := by have := HP.out.2.2.1; omega
      rw [ht] at x2
      obtain ⟨D, hD⟩ : ∃ D, distL M l (pp l k).1 s = D := ⟨_, rfl⟩
      have HDD := hid hD
      have HT := hid (show (pp l k).2.2.1.toNat = t by omega)
      clear hD ht hkl
      go_wp2_with fail
      refine (i_distances M s (pp l k).1 _ _ _ l _ (H.out.below (bstep (bstep BA.out hh.out.2) (by go_grown))) HG.out HS.out).mono ?_
      rintro e w1 ⟨a1, c1, rfl, ho1, hb1⟩
      rw [HDD.out] at ho1
      obtain ⟨g1, rfl, -, hg1⟩ := own_some ho1 (by omega)
      have p2 : w1.cell? ⟨W0.heap.size, 2, none⟩ = some (.int .i64 t) := by rw [hb1.cell (p := ⟨W0.heap.size, 2, none⟩) (by simp), cell_of_row _ _ _ _ _ (0, 0) (heap_alloc_new _ _)]; rfl
      have HB1 := hid (bstep (by go_grown) hb1 : Below W0.heap.size W0 w1)
      have HO1 := hid ho1
      have hzp : W0.heap.size < w1.heap.size := World.block_lt_of_cell? w1 _ p2
      clear ho1 hb1 n0 n1 x0 x1 x2 x3 hbw hz0
      go_wp2
      go_loopg [11, 29] M (fun g sm i wr => ∃ j : Nat, j ≤ M ∧ g = M - j ∧ i = .int .i64 j ∧ sm = .int .i64 (dsum D ds j) ∧ w1 = wr)
      case atStart => exact ⟨0, Nat.zero_le _, rfl, rfl, rfl, rfl⟩
      case round =>
        obtain ⟨j, hj, rfl, rfl, rfl, rfl⟩ := hrel
        have hf := dsum_fit (D := D) HD.out j (by have := HDL.out; omega)
        by_cases hlj : j < M
        · obtain ⟨b1, off1, e1, hb1w, hc1⟩ := (H'.out.below (bstep (bstep BA.out hh.out.2) HB1.out)).2 j hlj
          subst e1
          have hd1 := HO1.out.cell (k := j + 1) (by omega)
          have hx := HD.out _ (getD_mem ds j (by have := HDL.out; omega))
          have hj0 : (0 : Int) ≤ (j : Int) + 1 := by omega
          have hj1 : (j : Int) + 1 < ((M + 1 : Nat) : Int) := by omega
          by_cases hp : D[j + 1]?.getD 0 < 0
          · have E := hid (dsum_yes (ds := ds) hp)
            go_wp2
            go_roundg (M - (j + 1))
            case rel => exact ⟨j + 1, by omega, rfl, by go_num, by rw [E.out], rfl⟩
            case measure => omega
          · have E := hid (dsum_no (ds := ds) hp)
            go_wp2
            go_roundg (M - (j + 1))
            case rel => exact ⟨j + 1, by omega, rfl, by go_num, by rw [E.out], rfl⟩
            case measure => omega
        · obtain rfl : j = M := by omega
          have hdt := HO1.out.cell (k := t) (by omega)
          have t1 : (0 : Int) ≤ (t : Int) := by omega
          have t2 : (t : Int) < ((j + 1 : Nat) : Int) := by omega
          by_cases hp : D[t]?.getD 0 < 0
          · have E := hid (show tflow j l s ds k = dsum D ds j from by rw [tflow_dry (by rw [HDD.out, HT.out]; exact hp), HDD.out])
            have hp2 : ¬ 0 ≤ D[t]?.getD 0 := by omega
            have ho2 := hh.out.1.below HB1.out
            go_wp2_with (at_builtin; refine wp_append_ints _ rfl _ _ rfl wA.heap.size _ (tflows _ l s ds k) rfl (ho2.alloc _) _ 1 1 [tflow _ l s ds k] rfl (by rw [E.out]; exact IntsAt.single _ _) (k + 1) (by simp [tflows_len]) (by omega) (by have := ho2.len; have := hh.out.2.size; have := HB1.out.size; simp; omega) ?_)
            intro a2 c2 w2 hown hgrow hblk
            have S2 := hid (show OwnI w2 wA.heap.size (.slice a2 (k + 1) c2) (tflows _ l s ds (k + 1)) ∧ Below wA.heap.size wA w2 from
              ⟨by rw [tflows_succ]; exact hown, (bstep (bstep hh.out.2 HB1.out) (by go_grown)).grown hgrow (by have := hh.out.2.size; have := HB1.out.size; simp; omega) (fun q hq => (hh.out.1.lt q hq).1)⟩)
            clear hown hgrow hblk ho2
            go_wp2
            go_roundg (n - (k + 1))
            case rel => exact ⟨k + 1, _, _, by omega, rfl, by go_num, rfl, S2⟩
            case measure => omega
          · have E := hid (show tflow j l s ds k = -(dsum D ds j) from by rw [tflow_wet (by rw [HDD.out, HT.out]; exact hp), HDD.out])
            have hp2 : 0 ≤ D[t]?.getD 0 := by omega
            have ho2 := hh.out.1.below HB1.out
            go_wp2_with (at_builtin; refine wp_append_ints _ rfl _ _ rfl wA.heap.size _ (tflows _ l s ds k) rfl (ho2.alloc _) _ 1 1 [tflow _ l s ds k] rfl (by rw [E.out]; exact IntsAt.single _ _) (k + 1) (by simp [tflows_len]) (by omega) (by have := ho2.len; have := hh.out.2.size; have := HB1.out.size; simp; omega) ?_)
            intro a2 c2 w2 hown hgrow hblk
            have S2 := hid (show OwnI w2 wA.heap.size (.slice a2 (k + 1) c2) (tflows _ l s ds (k + 1)) ∧ Below wA.heap.size wA w2 from
              ⟨by rw [tflows_succ]; exact hown, (bstep (bstep hh.out.2 HB1.out) (by go_grown)).grown hgrow (by have := hh.out.2.size; have := HB1.out.size; simp; omega) (fun q hq => (hh.out.1.lt q hq).1)⟩)
            clear hown hgrow hblk ho2
            go_wp2
            go_roundg (n - (k + 1))
            case rel => exact ⟨k + 1, _, _, by omega, rfl, by go_num, rfl, S2⟩
            case measure => omega
    · obtain rfl : k = n := by omega
      go_wp2
      go_ret
      exact ⟨_, _, rfl, hh.out.1.mono (by omega), bstep BA.out hh.out.2⟩

set_option maxRecDepth 100000 in
set_option maxHeartbeats 4000000 in
theorem s_l8TreeFlows (M : Nat) (s : Int) (a p : Option Addr) (n c d : Nat) (l : List Pip) (ds : List Int) (w : World) (h : QAt w a n l) (h' : IntsAt w p M ds) (hg : goodNet M l = true) (hs : 1 ≤ s ∧ s ≤ M) (hd : ∀ x ∈ ds, 0 ≤ x ∧ x ≤ 1000) (ht : treeB M l = true) (hc : n ≤ c) :
    Calls Try.prog 70 #[.agg #[.int .i64 M, .slice a n c], .int .i64 s, .slice p M d] w fun e w' => ∃ a' c', e = .returned (.slice a' n c') ∧ OwnI w' w.heap.size (.slice a' n c') (tflows M l s ds n) ∧ Below w.heap.size w w' := by
  have hM : M ≤ 8 := by have := (goodNet_get hg).1; omega
  have hn : n ≤ 10 := by have := (goodNet_get hg).2.1; have := h.1; omega
  have HLN := hid h.1
  have HDL := hid h'.1
  have H := hid h
  have H' := hid h'
  have HG := hid hg
  have HS := hid hs
  have HD := hid hd
  have HT := hid ht
  clear h h' hg hs hd ht
  go_enter Try.func70, Try.ntmps70
  go_upto_region 1 with fail
  have BA := hid (by go_grown : Below w.heap.size w (w.alloc (.cells #[.int .i64 M, .slice a n c] 26)))
  have N0 := hid (cell_of_row _ _ 0 _ _ (0, 0) (heap_alloc_new w (.cells #[.int .i64 M, .slice a n c] 26)))
  have N1 := hid (cell_of_row _ _ 1 _ _ (0, 0) (heap_alloc_new w (.cells #[.int .i64 M, .slice a n c] 26)))
  have hzA : w.heap.size < (w.alloc (.cells #[.int .i64 M, .slice a n c] 26)).heap.size := by simp
  have n0 := N0.out
  have n1 := N1.out
  simp only [List.getElem?_toArray, List.getElem?_cons_zero, List.getElem?_cons_succ] at n0 n1
  generalize w.alloc (.cells #[.int .i64 M, .slice a n c] 26) = wA at *
  go_wp2
  go_loopg [7, 8] n (fun g o i wr => ∃ (k : Nat) (a' : Option Addr) (c' : Nat), k ≤ n ∧ g = n - k ∧ i = .int .i64 k ∧ o = .slice a' k c' ∧ Hid (OwnI wr wA.heap.size (.slice a' k c') (tflows M l s ds k) ∧ Below wA.heap.size wA wr))
  case atStart => exact ⟨0, _, 0, Nat.zero_le _, rfl, rfl, rfl, hid ⟨by simpa [tflows] using OwnI.lit0 wA, by go_grown⟩⟩
  case round =>
    obtain ⟨k, a', c', hk, rfl, rfl, rfl, hh⟩ := hrel
    obtain ⟨W0, hW0⟩ : ∃ W, W = wr := ⟨_, rfl⟩
    subst hW0
    have n0 := (hh.out.2.cell (p := ⟨w.heap.size, 0, none⟩) hzA).trans N0.out
    have n1 := (hh.out.2.cell (p := ⟨w.heap.size, 1, none⟩) hzA).trans N1.out
    have hz0 : w.heap.size < W0.heap.size := World.block_lt_of_cell? W0 _ n0
    by_cases hlt : k < n
    · have hkl : k < l.length := by have := HLN.out; omega
      obtain ⟨L, hL⟩ : ∃ L, neg (distL M l (pp l k).1 s) (M + 1) = L := ⟨_, rfl⟩
      have HF := hid (show (pp l k).2.1 ∈ L ↔ ¬ (distL M l (pp l k).1 s)[(pp l k).2.2.1.toNat]?.getD 0 < 0 from by rw [← hL]; exact tree_from HG.out HT.out HS.out hkl)
      have HM := hid (show ∀ x ∈ L, 1 ≤ x ∧ x ≤ M from fun x hx => by
        rw [← hL, mem_neg] at hx
        obtain ⟨v, h1, h2, h3, h4⟩ := hx
        omega)
      have HSM := hid (show nsum ds L L.length = dsum (distL M l (pp l k).1 s) ds M from by rw [← hL]; exact nsum_all _ _ _)
      have hq8 : L.length ≤ M + 1 := by rw [← hL]; exact neg_len _ _
      go_wp2_with fail
      refine (s_l8Down M s k _ _ _ l _ (H.out.below (bstep BA.out hh.out.2)) HG.out hc hlt HS.out).mono ?_
      rintro e w1 ⟨a1, c1, rfl, ho1, hb1⟩
      rw [hL] at ho1 ⊢
      have HL := hid hL
      have HB1 := hid (hb1 : Below W0.heap.size W0 w1)
      have HO1 := hid ho1
      have m1 := (hb1.cell (p := ⟨w.heap.size, 1, none⟩) hz0).trans n1
      obtain ⟨q, hq⟩ : ∃ q, L.length = q := ⟨_, rfl⟩
      have HQ := hid hq
      rw [hq] at hq8 ⊢
      clear ho1 hb1 n0 n1 hL hq hkl
      have hz1 : w.heap.size < w1.heap.size := World.block_lt_of_cell? w1 _ m1
      go_wp2
      go_loopg [10, 11] q (fun g sm i wr => ∃ j : Nat, j ≤ q ∧ g = q - j ∧ i = .int .i64 j ∧ sm = .int .i64 (nsum ds L j) ∧ w1 = wr)
      case atStart => exact ⟨0, Nat.zero_le _, rfl, rfl, rfl, rfl⟩
      case round =>
        obtain ⟨j, hj, rfl, rfl, rfl, rfl⟩ := hrel
        have hf := nsum_fit (ds := ds) (L := L) HD.out j (by have := HQ.out; omega)
        by_cases hlj : j < q
        · have hx := HM.out _ (getD_mem L j (by have := HQ.out; omega))
          have E := hid (nsum_succ (ds := ds) (L := L) (k := j) (by have := HQ.out; omega))
          obtain ⟨b2, off2, e2, hb2w, hc2⟩ := HO1.out.at.2 j (by have := HQ.out; omega)
          subst e2
          obtain ⟨v, hv⟩ : ∃ v : Nat, L[j]?.getD 0 = (v : Int) + 1 := ⟨(L[j]?.getD 0).toNat - 1, by omega⟩
          have HV := hid hv
          rw [hv] at hc2 hx
          have hvM : v < M := by omega
          obtain ⟨b1, off1, e1, hb1w, hc1⟩ := (H'.out.below (bstep (bstep BA.out hh.out.2) HB1.out)).2 v hvM
          subst e1
          have hdv := HD.out _ (getD_mem ds v (by have := HDL.out; omega))
          have HE := hid (show nsum ds L (j + 1) = nsum ds L j + ds[v]?.getD 0 from by
            rw [E.out, HV.out]
            congr 2)
          have hv0 : (0 : Int) ≤ (v : Int) := by omega
          have hv1 : (v : Int) < (M : Int) := by omega
          clear hv E
          go_wp2
          go_roundg (q - (j + 1))
          case rel => exact ⟨j + 1, by omega, rfl, by go_num, by rw [HE.out], rfl⟩
          case measure => omega
        · obtain rfl : j = q := by omega
          have HSQ := hid (show nsum ds L j = dsum (distL M l (pp l k).1 s) ds M from by rw [← HQ.out]; exact HSM.out)
          obtain ⟨b0, off0, rfl, hbw, x0, x1, x2, x3⟩ := QAt.get (H.out.below (bstep (bstep BA.out hh.out.2) HB1.out)) k hlt
          by_cases hp : (distL M l (pp l k).1 s)[(pp l k).2.2.1.toNat]?.getD 0 < 0
          · have E := hid (show tflow M l s ds k = nsum ds L j from by rw [tflow_dry hp, HSQ.out])
            have FT := hid (show decide ((pp l k).2.1 ∈ L) = false by simp; exact fun h => by have := HF.out.1 h; omega)
            go_wp2_with fail
            refine (s_l1Has_is _ _ _ _ L _ (HO1.out.at.congr HQ.out rfl) (by omega) false FT.out).mono ?_
            rintro e _ ⟨rfl, rfl⟩
            have ho2 := hh.out.1.below HB1.out
            go_wp2_with (at_builtin; refine wp_append_ints _ rfl _ _ rfl wA.heap.size _ (tflows _ l s ds k) rfl (ho2.alloc _) _ 1 1 [tflow _ l s ds k] rfl (by rw [E.out]; exact IntsAt.single _ _) (k + 1) (by simp [tflows_len]) (by omega) (by have := ho2.len; have := hh.out.2.size; have := HB1.out.size; simp; omega) ?_)
            intro a2 c2 w2 hown hgrow hblk
            have S2 := hid (show OwnI w2 wA.heap.size (.slice a2 (k + 1) c2) (tflows _ l s ds (k + 1)) ∧ Below wA.heap.size wA w2 from
              ⟨by rw [tflows_succ]; exact hown, (bstep (bstep hh.out.2 HB1.out) (by go_grown)).grown hgrow (by have := hh.out.2.size; have := HB1.out.size; simp; omega) (fun q hq => (hh.out.1.lt q hq).1)⟩)
            clear hown hgrow hblk ho2
            go_wp2
            go_roundg (n - (k + 1))
            case rel => exact ⟨k + 1, _, _, by omega, rfl, by go_num, rfl, S2⟩
            case measure => omega
          · have E := hid (show tflow M l s ds k = -(nsum ds L j) from by rw [tflow_wet hp, HSQ.out])
            have FT := hid (show decide ((pp l k).2.1 ∈ L) = true by simp; exact HF.out.2 (by omega))
            go_wp2_with fail
            refine (s_l1Has_is _ _ _ _ L _ (HO1.out.at.congr HQ.out rfl) (by omega) true FT.out).mono ?_
            rintro e _ ⟨rfl, rfl⟩
            have ho2 := hh.out.1.below HB1.out
            go_wp2_with (at_builtin; refine wp_append_ints _ rfl _ _ rfl wA.heap.size _ (tflows _ l s ds k) rfl (ho2.alloc _) _ 1 1 [tflow _ l s ds k] rfl (by rw [E.out]; exact IntsAt.single _ _) (k + 1) (by simp [tflows_len]) (by omega) (by have := ho2.len; have := hh.out.2.size; have := HB1.out.size; simp; omega) ?_)
            intro a2 c2 w2 hown hgrow hblk
            have S2 := hid (show OwnI w2 wA.heap.size (.slice a2 (k + 1) c2) (tflows _ l s ds (k + 1)) ∧ Below wA.heap.size wA w2 from
              ⟨by rw [tflows_succ]; exact hown, (bstep (bstep hh.out.2 HB1.out) (by go_grown)).grown hgrow (by have := hh.out.2.size; have := HB1.out.size; simp; omega) (fun q hq => (hh.out.1.lt q hq).1)⟩)
            clear hown hgrow hblk ho2
            go_wp2
            go_roundg (n - (k + 1))
            case rel => exact ⟨k + 1, _, _, by omega, rfl, by go_num, rfl, S2⟩
            case measure => omega
    · obtain rfl : k = n := by omega
      go_wp2
      go_ret
      exact ⟨_, _, rfl, hh.out.1.mono (by omega), bstep BA.out hh.out.2⟩

end Go.Proofs.Ytlnhikhpkcgegaa

/-
  Networks: whether a node is there.
-/
set_option linter.unusedVariables false
set_option linter.unusedSimpArgs false
namespace Go.Proofs.Ytlnhikhpkcgegaa
open Go.RowKit

theorem i_hasNode (N x : Int) (a : Option Addr) (n c : Nat) (l : List Pip) (w : World) (h : QAt w a n l) (hn : n ≤ 1048576) :
    Calls Try.prog 77 #[.agg #[.int .i64 N, .slice a n c], .int .i64 x] w fun e w' => e = .returned (.bool (goodNet N l && inR x 1 N)) ∧ Below w.heap.size w w' := by
  have H := hid h
  clear h
  cases h1 : goodNet N l
  · have HG := hid h1
    clear h1
    go_enter Try.func77, Try.ntmps77
    go_wp2_with fail
    refine (i_IsValidNetwork N _ _ _ l _ (H.out.below (by go_grown)) (by omega)).mono ?_
    rintro e w1 ⟨rfl, hb1⟩
    rw [HG.out]
    obtain ⟨hc_w1, hf_w1⟩ := bcell hb1
    have hz_w1_0 : w.heap.size < w1.heap.size := by have := hb1.size; simp only [World.size_alloc] at this; omega
    have HB1 := hid (bstep (by go_grown) hb1 : Below w.heap.size w w1)
    go_wp2
    go_ret
    exact ⟨rfl, HB1.out⟩
  · have HG := hid h1
    clear h1
    go_enter Try.func77, Try.ntmps77
    go_wp2_with fail
    refine (i_IsValidNetwork N _ _ _ l _ (H.out.below (by go_grown)) (by omega)).mono ?_
    rintro e w1 ⟨rfl, hb1⟩
    rw [HG.out]
    obtain ⟨hc_w1, hf_w1⟩ := bcell hb1
    have hz_w1_0 : w.heap.size < w1.heap.size := by have := hb1.size; simp only [World.size_alloc] at this; omega
    have HB1 := hid (bstep (by go_grown) hb1 : Below w.heap.size w w1)
    go_wp2_with fail
    refine (i_has N x _ _ _ _).mono ?_
    rintro e w2 ⟨rfl, hb2⟩
    go_wp2
    go_ret
    exact ⟨rfl, bstep HB1.out hb2⟩
theorem s_l2Node (N x : Int) (a : Option Addr) (n c : Nat) (l : List Pip) (w : World) (h : QAt w a n l) (hn : n ≤ 1048576) :
    Calls Try.prog 67 #[.agg #[.int .i64 N, .slice a n c], .int .i64 x] w fun e w' => e = .returned (.bool (goodNet N l && inR x 1 N)) ∧ Below w.heap.size w w' := by
  have H := hid h
  clear h
  cases h1 : goodNet N l
  · have HG := hid h1
    clear h1
    go_enter Try.func67, Try.ntmps67
    go_wp2_with fail
    refine (s_l2Good N _ _ _ l _ (H.out.below (by go_grown)) (by omega)).mono ?_
    rintro e w1 ⟨rfl, hb1⟩
    rw [HG.out]
    obtain ⟨hc_w1, hf_w1⟩ := bcell hb1
    have hz_w1_0 : w.heap.size < w1.heap.size := by have := hb1.size; simp only [World.size_alloc] at this; omega
    have HB1 := hid (bstep (by go_grown) hb1 : Below w.heap.size w w1)
    go_wp2
    go_ret
    exact ⟨rfl, HB1.out⟩
  · have HG := hid h1
    clear h1
    go_enter Try.func67, Try.ntmps67
    go_wp2_with fail
    refine (s_l2Good N _ _ _ l _ (H.out.below (by go_grown)) (by omega)).mono ?_
    rintro e w1 ⟨rfl, hb1⟩
    rw [HG.out]
    obtain ⟨hc_w1, hf_w1⟩ := bcell hb1
    have hz_w1_0 : w.heap.size < w1.heap.size := by have := hb1.size; simp only [World.size_alloc] at this; omega
    have HB1 := hid (bstep (by go_grown) hb1 : Below w.heap.size w w1)
    go_wp2_with fail
    refine (s_l1In _ _ _ _).mono ?_
    rintro e _ ⟨rfl, rfl⟩
    go_wp2
    go_ret
    exact ⟨rfl, HB1.out⟩

end Go.Proofs.Ytlnhikhpkcgegaa

/-
  The draw of flows.
-/
set_option linter.unusedVariables false
set_option linter.unusedSimpArgs false
namespace Go.Proofs.Ytlnhikhpkcgegaa
open Go.RowKit

/-- A list in the making, beside the box of the network that was handed in, and the cursor. -/
structure FB (w W : World) (g K : Nat) (N : Int) (a : Option Addr) (n c : Nat) (a' : Option Addr) (k c' : Nat) (l : List Int) : Prop where
  cur : Cur W g K
  gro : w.grownBy W (some g)
  box : W.heap[w.heap.size]? = some (.cells #[.int .i64 N, .slice a n c] 26 (0, 0))
  own : OwnI W (w.heap.size + 1) (.slice a' k c') l
  gb : g < w.heap.size
section
variable {w W W' : World} {g K : Nat} {N : Int} {a a' : Option Addr} {n c k c' : Nat} {l : List Int}
theorem FB.lt (h : FB w W g K N a n c a' k c' l) : w.heap.size < W.heap.size := (Array.getElem?_eq_some_iff.1 h.box).1
theorem FB.step {K' : Nat} (h : FB w W g K N a n c a' k c' l) (hc : Cur W' g K') (hg : W.grownBy W' (some g)) : FB w W' g K' N a n c a' k c' l :=
  ⟨hc, grownBy_trans h.gro hg, (hg.block _ h.lt (fun e => by have := Option.some.inj e; have := h.gb; omega)).trans h.box, h.own.kept hg (ownI_ne h.own (by have := h.gb; omega)), h.gb⟩
theorem FB.below (h : FB w W g K N a n c a' k c' l) (hb : Below W.heap.size W W') : FB w W' g K N a n c a' k c' l := h.step (h.cur.below hb) (grown_of_below hb _)
theorem FB.le {K' : Nat} (h : FB w W g K N a n c a' k c' l) (hk : K ≤ K') : FB w W g K' N a n c a' k c' l := ⟨h.cur.le hk, h.gro, h.box, h.own, h.gb⟩
theorem FB.put {a2 : Option Addr} {k2 c2 : Nat} {l2 : List Int} (h : FB w W g K N a n c a' k c' l) (hg : W.grownBy W' (Value.ownBlock (.slice a' k c'))) (ho : OwnI W' (w.heap.size + 1) (.slice a2 k2 c2) l2) : FB w W' g K N a n c a2 k2 c2 l2 := by
  have hr : ∀ q, Value.ownBlock (.slice a' k c') = some q → w.heap.size < q := fun q e => by have := (h.own.lt q e).1; omega
  exact ⟨h.cur.kept hg (fun q e => by have := hr q e; have := h.gb; omega), grown_step h.gro hg (fun q e => .inl (by have := hr q e; omega)), (hg.block _ h.lt (fun e => by have := hr _ e.symm; omega)).trans h.box, ho, h.gb⟩
theorem FB.set {go i : Nat} (h : FB w W g K N a n c (some ⟨go, 0, none⟩) k c' l) (u : Int) : FB w (W.setCell ⟨go, i, none⟩ (.int .i64 u)) g K N a n c (some ⟨go, 0, none⟩) k c' (l.set i u) :=
  h.put (grown_setCell W go i _) (h.own.set u).1
end

set_option maxRecDepth 100000 in
set_option maxHeartbeats 8000000 in
theorem c_flows (g K : Nat) (N s : Int) (a p : Option Addr) (n c m d : Nat) (L : List Pip) (ds : List Int) (w : World) (h : Cur w g K) (hq : QAt w a n L) (hd : IntsAt w p m ds) (hc : n ≤ c) (hK : K ≤ 100000000) (hn : n ≤ 1000) (hm : m ≤ 10000) :
    Calls Try.prog 151 #[.pointer (some ⟨g, 0, none⟩), .agg #[.int .i64 N, .slice a n c], .int .i64 s, .slice p m d] w fun e w' => (∃ (a' : Option Addr) (k c' : Nat) (l : List Int), e = .returned (.slice a' k c') ∧ OwnI w' w.heap.size (.slice a' k c') l ∧ k ≤ 1001) ∧ Cur w' g (K + 3000) ∧ w.grownBy w' (some g) := by
  have H := hid h
  have HQ := hid hq
  have HD := hid hd
  have hgz := h.lt
  clear h hq hd
  go_enter Try.func151, Try.ntmps151
  go_upto_region 2 with fail
  have S0 := hid (show FB w ((w.alloc (.cells #[.int .i64 N, .slice a n c] 26)).alloc (.cells #[] 3)) g K N a n c (some ⟨w.heap.size + 1, 0, none⟩) 0 0 [] from
    ⟨H.out.below (by go_grown), grown_of_below (by go_grown) _, mid_new _ _ _ _ rfl, by have := OwnI.lit0 (w.alloc (.cells #[.int .i64 N, .slice a n c] 26)); simp only [World.size_alloc] at this; exact this, hgz⟩)
  have B0 := hid (by go_grown : Below w.heap.size w ((w.alloc (.cells #[.int .i64 N, .slice a n c] 26)).alloc (.cells #[] 3)))
  generalize (w.alloc (.cells #[.int .i64 N, .slice a n c] 26)).alloc (.cells #[] 3) = w0 at *
  clear H
  go_cut [22] (fun s22 wx => ∃ b : Bool, s22 = .bool b ∧ Hid ((b = true → goodNet N L = true ∧ (1 ≤ s ∧ s ≤ N) ∧ goodDem N ds = true ∧ treeB N L = true) ∧ Below w0.heap.size w0 wx))
  case first =>
    obtain ⟨m0, m1⟩ := two_of S0.out.box
    have hlt := S0.out.lt
    go_wp2_with fail
    refine (s_l2Node N s _ _ _ L _ (HQ.out.below B0.out) (by omega)).mono ?_
    rintro e w1 ⟨rfl, hb1⟩
    have S1 := hid (S0.out.below hb1)
    have B1 := hid hb1
    clear hb1 m0 m1 hlt
    obtain ⟨m0, m1⟩ := two_of S1.out.box
    have hlt := S1.out.lt
    cases h1 : (goodNet N L && inR s 1 N)
    · clear h1
      go_wp2_with fail
      go_meet
      exact ⟨false, rfl, hid ⟨(fun e => by cases e), B1.out⟩⟩
    · have H1 := hid h1
      clear h1
      go_wp2_with fail
      refine (s_l8Demands N _ _ _ _ _ _ ds _ (HD.out.below (bstep B0.out B1.out)) (by omega)).mono ?_
      rintro e w2 ⟨rfl, hb2⟩
      have S2 := hid (S1.out.below hb2)
      have B2 := hid (bstep B1.out hb2)
      clear hb2 m0 m1 hlt
      obtain ⟨m0, m1⟩ := two_of S2.out.box
      have hlt := S2.out.lt
      cases h2 : goodDem N ds
      · clear h2
        go_wp2_with fail
        go_meet
        exact ⟨false, rfl, hid ⟨(fun e => by cases e), B2.out⟩⟩
      · have H2 := hid h2
        clear h2
        have H1a := hid ((Bool.and_eq_true _ _).mp H1.out).1
        have H1b := hid (inR_iff.1 ((Bool.and_eq_true _ _).mp H1.out).2)
        obtain ⟨M, rfl⟩ : ∃ M : Nat, N = M := ⟨N.toNat, by have := H1b.out; omega⟩
        go_wp2_with fail
        refine (s_l8Tree M _ _ _ L _ (HQ.out.below (bstep B0.out B2.out)) H1a.out).mono ?_
        rintro e w3 ⟨rfl, hb3⟩
        have B3 := hid (bstep B2.out hb3)
        clear hb3 m0 m1 hlt
        cases h3 : treeB M L
        · clear h3
          go_wp2_with fail
          go_meet
          exact ⟨false, rfl, hid ⟨(fun e => by cases e), B3.out⟩⟩
        · have H3 := hid h3
          clear h3
          go_wp2_with fail
          go_meet
          exact ⟨true, rfl, hid ⟨fun _ => ⟨H1a.out, H1b.out, H2.out, H3.out⟩, B3.out⟩⟩
  case rest =>
    obtain ⟨b, rfl, hh⟩ := hcut
    obtain ⟨w1, rfl⟩ : ∃ W, W = wc := ⟨_, rfl⟩
    have S1 := hid (S0.out.below hh.out.2)
    have B1 := hid (bstep B0.out hh.out.2)
    have HB := hid hh.out.1
    clear hh
    go_upto_if 22 with (fail)
    go_cut [9] (fun s9 wx => ∃ (a' : Option Addr) (k c' : Nat) (l : List Int), s9 = .slice a' k c' ∧ k ≤ n ∧ Hid (FB w wx g K N a n c a' k c' l))
    case first =>
      cases b
      · go_wp2_with fail
        go_meet
        exact ⟨_, 0, 0, [], rfl, by omega, S1⟩
      · obtain ⟨hg, hs, hdm, ht⟩ := HB.out rfl
        obtain ⟨M, rfl⟩ : ∃ M : Nat, N = M := ⟨N.toNat, by omega⟩
        obtain ⟨hl, hdi⟩ := goodDem_iff.1 hdm
        obtain rfl : m = M := by have := HD.out.1; omega
        have HG := hid hg
        have HS := hid hs
        have HT := hid ht
        have HDI := hid hdi
        clear hg hs hdm ht hl hdi
        obtain ⟨m0, m1⟩ := two_of S1.out.box
        have hlt := S1.out.lt
        go_wp2_with fail
        refine (s_l8TreeFlows m s _ _ _ _ _ L ds _ (HQ.out.below B1.out) (HD.out.below B1.out) HG.out HS.out HDI.out HT.out hc).mono ?_
        rintro e w2 ⟨a2, c2, rfl, ho2, hb2⟩
        have S2 := hid (S1.out.below hb2)
        have S3 := hid (show FB w w2 g K m a n c a2 n c2 _ from ⟨S2.out.cur, S2.out.gro, S2.out.box, ho2.mono (by have := S1.out.lt; omega), S2.out.gb⟩)
        clear ho2 hb2 m0 m1 hlt
        go_wp2_with fail
        go_meet
        exact ⟨_, _, _, _, rfl, by omega, S3⟩
    case rest =>
      obtain ⟨a1, k1, c1, l1, rfl, hk1, hh⟩ := hcut
      clear S1 B1 HB
      obtain ⟨w1, rfl⟩ : ∃ W, W = wc := ⟨_, rfl⟩
      go_wp2
      go_loopg [9] (n - k1) (fun gm o wr => ∃ (a' : Option Addr) (k c' : Nat) (l : List Int), k ≤ n ∧ gm = n - k ∧ o = .slice a' k c' ∧ Hid (FB w wr g (K + 2 * k) N a n c a' k c' l))
      case atStart => exact ⟨_, _, _, _, hk1, rfl, rfl, hid (hh.out.le (by omega))⟩
      case round =>
        clear hh
        obtain ⟨a', k, c', l, hk, rfl, rfl, hh⟩ := hrel
        obtain ⟨m0, m1⟩ := two_of hh.out.box
        have hlt := hh.out.lt
        by_cases hkn : k < n
        · have hkni : (k : Int) < (n : Int) := by omega
          go_wp2_with fail
          refine (c_pick g _ 40 _ hh.out.cur (by omega) (by omega)).mono ?_
          rintro e w5 ⟨⟨v, rfl, -, -⟩, hc5, hg5⟩
          have S5 := hid (hh.out.step hc5 hg5)
          have hll := S5.out.own.len
          have hs5 := S5.out.lt
          clear hc5 hg5 m0 m1 hlt
          go_wp2_with (at_builtin; refine wp_append_ints _ rfl _ _ rfl (w.heap.size + 1) _ l rfl (S5.out.own.alloc _) _ 1 1 [wrap64 (v - 20)] rfl (IntsAt.single _ _) (k + 1) (by omega) (by omega) (by simp; omega) ?_)
          intro a2 c2 w6 hown hgrow hblk
          have S6 := hid (S5.out.put (grownBy_trans (grown_of_below (by go_grown) _) hgrow) hown)
          clear hown hgrow hblk S5
          go_wp2
          go_roundg (n - (k + 1))
          case rel => exact ⟨_, k + 1, _, _, by omega, rfl, rfl, hid (S6.out.le (by omega))⟩
          case measure => omega
        · have hkni : ¬ (k : Int) < (n : Int) := by omega
          obtain rfl : k = n := by omega
          have hll := hh.out.own.len
          by_cases h0 : 0 < k
          · have h0i : (0 : Int) < (k : Int) := by omega
            obtain ⟨go, rfl, hgo1, hgo2⟩ := own_some hh.out.own h0
            go_wp2_with fail
            refine (c_one g _ 4 _ hh.out.cur (by omega) (by omega)).mono ?_
            rintro e w5 ⟨⟨b, rfl⟩, hc5, hg5⟩
            have S5 := hid (hh.out.step hc5 hg5)
            clear hc5 hg5 m0 m1 hlt
            cases b
            · go_wp2_with fail
              refine (c_one g _ 24 _ S5.out.cur (by omega) (by omega)).mono ?_
              rintro e wE ⟨⟨bE, rfl⟩, hcE, hgE⟩
              have SE := hid (S5.out.step hcE hgE)
              have hlE := SE.out.own.len
              have hsE := SE.out.lt
              clear hcE hgE
              cases bE
              · go_wp2
                go_ret
                exact ⟨⟨_, _, _, _, rfl, SE.out.own.mono (by omega), by omega⟩, SE.out.cur.le (by omega), SE.out.gro⟩
              · go_wp2_with (at_builtin; refine wp_append_ints _ rfl _ _ rfl (w.heap.size + 1) _ _ rfl (SE.out.own.alloc _) _ 1 1 [1] rfl (IntsAt.single _ _) (k + 1) (by omega) (by omega) (by simp; omega) ?_)
                intro a2 c2 wF hown hgrow hblk
                have SF := hid (SE.out.put (grownBy_trans (grown_of_below (by go_grown) _) hgrow) hown)
                clear hown hgrow hblk
                go_wp2
                go_ret
                exact ⟨⟨_, _, _, _, rfl, SF.out.own.mono (by omega), by omega⟩, SF.out.cur.le (by omega), SF.out.gro⟩
            · go_wp2_with fail
              refine (c_pick g _ k _ S5.out.cur (by omega) (by omega)).mono ?_
              rintro e w6 ⟨⟨v, rfl, v0, v1⟩, hc6, hg6⟩
              obtain ⟨i, rfl⟩ : ∃ i : Nat, v = i := ⟨v.toNat, by omega⟩
              have S6 := hid (S5.out.step hc6 hg6)
              have hi : i < k := by omega
              have hi2 : (i : Int) < (k : Int) := by omega
              clear hc6 hg6 v1
              go_wp2_with fail
              refine (c_among g _ w6.heap.size 6 6 [0, 7, -7, 8000, -8000, 8001] _ (S6.out.cur.below (by go_grown)) (by omega) (IntsAt.lit' _ 3 [0, 7, -7, 8000, -8000, 8001] rfl rfl) (by have := S6.out.cur.lt; omega) (by omega) (by omega)).mono ?_
              rintro e w7 ⟨⟨u, rfl, hu⟩, hc7, hg7⟩
              have S7 := hid ((S6.out.below (by go_grown)).step hc7 hg7)
              have hcl := S7.out.own.cell (k := i) hi
              have hfr := S7.out.own.frozen (k := i)
              have S8 := hid (S7.out.set (i := i) u)
              have hgo7 : go < w7.heap.size := World.block_lt_of_cell? w7 _ hcl
              clear hc7 hg7 hu
              go_upto_region 8 with fail
              generalize w7.setCell ⟨go, i, none⟩ (.int .i64 u) = w8 at *
              clear hcl hfr S5 S6 S7
              go_wp2_with fail
              refine (c_one g _ 24 _ S8.out.cur (by omega) (by omega)).mono ?_
              rintro e wE ⟨⟨bE, rfl⟩, hcE, hgE⟩
              have SE := hid (S8.out.step hcE hgE)
              have hlE := SE.out.own.len
              have hsE := SE.out.lt
              clear hcE hgE
              cases bE
              · go_wp2
                go_ret
                exact ⟨⟨_, _, _, _, rfl, SE.out.own.mono (by omega), by omega⟩, SE.out.cur.le (by omega), SE.out.gro⟩
              · go_wp2_with (at_builtin; refine wp_append_ints _ rfl _ _ rfl (w.heap.size + 1) _ _ rfl (SE.out.own.alloc _) _ 1 1 [1] rfl (IntsAt.single _ _) (k + 1) (by omega) (by omega) (by simp; omega) ?_)
                intro a2 c2 wF hown hgrow hblk
                have SF := hid (SE.out.put (grownBy_trans (grown_of_below (by go_grown) _) hgrow) hown)
                clear hown hgrow hblk
                go_wp2
                go_ret
                exact ⟨⟨_, _, _, _, rfl, SF.out.own.mono (by omega), by omega⟩, SF.out.cur.le (by omega), SF.out.gro⟩
          · obtain rfl : k = 0 := by omega
            go_wp2_with fail
            refine (c_one g _ 24 _ hh.out.cur (by omega) (by omega)).mono ?_
            rintro e wE ⟨⟨bE, rfl⟩, hcE, hgE⟩
            have SE := hid (hh.out.step hcE hgE)
            have hlE := SE.out.own.len
            have hsE := SE.out.lt
            clear hcE hgE
            cases bE
            · go_wp2
              go_ret
              exact ⟨⟨_, _, _, _, rfl, SE.out.own.mono (by omega), by omega⟩, SE.out.cur.le (by omega), SE.out.gro⟩
            · go_wp2_with (at_builtin; refine wp_append_ints _ rfl _ _ rfl (w.heap.size + 1) _ _ rfl (SE.out.own.alloc _) _ 1 1 [1] rfl (IntsAt.single _ _) (0 + 1) (by omega) (by omega) (by simp; omega) ?_)
              intro a2 c2 wF hown hgrow hblk
              have SF := hid (SE.out.put (grownBy_trans (grown_of_below (by go_grown) _) hgrow) hown)
              clear hown hgrow hblk
              go_wp2
              go_ret
              exact ⟨⟨_, _, _, _, rfl, SF.out.own.mono (by omega), by omega⟩, SF.out.cur.le (by omega), SF.out.gro⟩

end Go.Proofs.Ytlnhikhpkcgegaa

