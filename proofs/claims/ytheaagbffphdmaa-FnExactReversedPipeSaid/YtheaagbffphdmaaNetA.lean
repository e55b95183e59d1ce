/-
  Networks: which are valid.
-/
import Derived.Test.YtheaagbffphdmaaPipeA
import Derived.Test.YtheaagbffphdmaaCalm
set_option linter.unusedVariables false
set_option linter.unusedSimpArgs false
namespace Go.Proofs.Ytheaagbffphdmaa
open Go.RowKit

/-- A pipe is valid, in itself; and at its place. -/
def okPipe (N : Int) (p : Pip) : Bool := inR p.1 1 99 && inR p.2.1 1 N && inR p.2.2.1 1 N && decide (p.2.1 ≠ p.2.2.1) && inR p.2.2.2 1 9
def okQ (N : Int) (l : List Pip) (k : Nat) : Bool := okPipe N (pp l k) && (decide (k = 0) || decide ((pp l (k - 1)).1 < (pp l k).1))
def goodNet (N : Int) (l : List Pip) : Bool := inR N 1 8 && decide (l.length ≤ 10) && (List.range l.length).all (okQ N l)
theorem goodNet_bad {N : Int} {l : List Pip} {k : Nat} (hk : k < l.length) (h : okQ N l k = false) : goodNet N l = false := by
  cases e : goodNet N l
  · rfl
  · simp only [goodNet, Bool.and_eq_true, List.all_eq_true, List.mem_range] at e
    rw [e.2 k hk] at h
    cases h
theorem goodNet_all {N : Int} {l : List Pip} (h1 : inR N 1 8 = true) (h2 : l.length ≤ 10) (h3 : ∀ k, k < l.length → okQ N l k = true) : goodNet N l = true := by
  simp only [goodNet, Bool.and_eq_true, List.all_eq_true, List.mem_range, decide_eq_true_eq]
  exact ⟨⟨h1, h2⟩, h3⟩
theorem goodNet_get {N : Int} {l : List Pip} (h : goodNet N l = true) : (1 ≤ N ∧ N ≤ 8) ∧ l.length ≤ 10 ∧ ∀ k, k < l.length → okQ N l k = true := by
  simp only [goodNet, Bool.and_eq_true, List.all_eq_true, List.mem_range, decide_eq_true_eq] at h
  exact ⟨inR_iff.1 h.1.1, h.1.2, h.2⟩
theorem okPipe_iff {N : Int} {p : Pip} : okPipe N p = true ↔ (1 ≤ p.1 ∧ p.1 ≤ 99) ∧ (1 ≤ p.2.1 ∧ p.2.1 ≤ N) ∧ (1 ≤ p.2.2.1 ∧ p.2.2.1 ≤ N) ∧ p.2.1 ≠ p.2.2.1 ∧ (1 ≤ p.2.2.2 ∧ p.2.2.2 ≤ 9) := by
  simp only [okPipe, Bool.and_eq_true, inR_iff, decide_eq_true_eq, and_assoc]
theorem goodNet_pipe {N : Int} {l : List Pip} (h : goodNet N l = true) {k : Nat} (hk : k < l.length) : (1 ≤ (pp l k).1 ∧ (pp l k).1 ≤ 99) ∧ (1 ≤ (pp l k).2.1 ∧ (pp l k).2.1 ≤ N) ∧ (1 ≤ (pp l k).2.2.1 ∧ (pp l k).2.2.1 ≤ N) ∧ (pp l k).2.1 ≠ (pp l k).2.2.1 ∧ (1 ≤ (pp l k).2.2.2 ∧ (pp l k).2.2.2 ≤ 9) := by
  have := (goodNet_get h).2.2 k hk
  simp only [okQ, Bool.and_eq_true] at this
  exact okPipe_iff.1 this.1
theorem all_nextN {p : Nat → Bool} {k : Nat} (h : ∀ j, j < k → p j = true) (hk : p k = true) : ∀ j, j < k + 1 → p j = true := fun j hj => by
  by_cases e : j = k
  · subst e; exact hk
  · exact h j (by omega)

theorem i_has (N x : Int) (a : Option Addr) (n c : Nat) (w : World) : Calls Try.prog 81 #[.agg #[.int .i64 N, .slice a n c], .int .i64 x] w fun e w' => e = .returned (.bool (inR x 1 N)) ∧ Below w.heap.size w w' := by
  go_enter Try.func81, Try.ntmps81
  go_wp2_with fail
  refine (i_inside _ _ _ _).mono ?_
  rintro e _ ⟨rfl, rfl⟩
  go_wp2
  go_ret
  exact ⟨rfl, by go_grown⟩

theorem s_l2Pipe (N p1 p2 p3 p4 : Int) (w : World) : Calls Try.prog 95 #[.int .i64 N, .agg #[.int .i64 p1, .int .i64 p2, .int .i64 p3, .int .i64 p4]] w fun e w' => e = .returned (.bool (okPipe N (p1, p2, p3, p4))) ∧ Below w.heap.size w w' := by
  cases c1 : inR p1 1 99
  · skip
    have E := hid (show false = okPipe N (p1, p2, p3, p4) by simp [okPipe, *])
    have H1 := hid c1
    clear c1
    go_enter Try.func95, Try.ntmps95
    go_wp2_with fail
    refine (s_l1In _ _ _ _).mono ?_
    rintro e _ ⟨rfl, rfl⟩
    rw [H1.out]
    go_wp2
    go_ret
    exact ⟨ret_bool E.out, by go_grown⟩
  · cases c2 : inR p2 1 N
    · skip
      have E := hid (show false = okPipe N (p1, p2, p3, p4) by simp [okPipe, *])
      have H1 := hid c1
      have H2 := hid c2
      clear c1 c2
      go_enter Try.func95, Try.ntmps95
      go_wp2_with fail
      refine (s_l1In _ _ _ _).mono ?_
      rintro e _ ⟨rfl, rfl⟩
      rw [H1.out]
      go_wp2_with fail
      refine (s_l1In _ _ _ _).mono ?_
      rintro e _ ⟨rfl, rfl⟩
      rw [H2.out]
      go_wp2
      go_ret
      exact ⟨ret_bool E.out, by go_grown⟩
    · cases c3 : inR p3 1 N
      · skip
        have E := hid (show false = okPipe N (p1, p2, p3, p4) by simp [okPipe, *])
        have H1 := hid c1
        have H2 := hid c2
        have H3 := hid c3
        clear c1 c2 c3
        go_enter Try.func95, Try.ntmps95
        go_wp2_with fail
        refine (s_l1In _ _ _ _).mono ?_
        rintro e _ ⟨rfl, rfl⟩
        rw [H1.out]
        go_wp2_with fail
        refine (s_l1In _ _ _ _).mono ?_
        rintro e _ ⟨rfl, rfl⟩
        rw [H2.out]
        go_wp2_with fail
        refine (s_l1In _ _ _ _).mono ?_
        rintro e _ ⟨rfl, rfl⟩
        rw [H3.out]
        go_wp2
        go_ret
        exact ⟨ret_bool E.out, by go_grown⟩
      · by_cases c4 : p2 = p3
        · subst c4
          have E := hid (show false = okPipe N (p1, p2, p2, p4) by simp [okPipe, *])
          have H1 := hid c1
          have H2 := hid c2
          have H3 := hid c3
          clear c1 c2 c3
          go_enter Try.func95, Try.ntmps95
          go_wp2_with fail
          refine (s_l1In _ _ _ _).mono ?_
          rintro e _ ⟨rfl, rfl⟩
          rw [H1.out]
          go_wp2_with fail
          refine (s_l1In _ _ _ _).mono ?_
          rintro e _ ⟨rfl, rfl⟩
          rw [H2.out]
          go_wp2_with fail
          refine (s_l1In _ _ _ _).mono ?_
          rintro e _ ⟨rfl, rfl⟩
          rw [H3.out]
          go_wp2
          go_ret
          exact ⟨ret_bool E.out, by go_grown⟩
        · cases c5 : inR p4 1 9
          · skip
            have E := hid (show false = okPipe N (p1, p2, p3, p4) by simp [okPipe, *])
            have H1 := hid c1
            have H2 := hid c2
            have H3 := hid c3
            have H5 := hid c5
            clear c1 c2 c3 c5
            go_enter Try.func95, Try.ntmps95
            go_wp2_with fail
            refine (s_l1In _ _ _ _).mono ?_
            rintro e _ ⟨rfl, rfl⟩
            rw [H1.out]
            go_wp2_with fail
            refine (s_l1In _ _ _ _).mono ?_
            rintro e _ ⟨rfl, rfl⟩
            rw [H2.out]
            go_wp2_with fail
            refine (s_l1In _ _ _ _).mono ?_
            rintro e _ ⟨rfl, rfl⟩
            rw [H3.out]
            go_wp2_with fail
            refine (s_l1In _ _ _ _).mono ?_
            rintro e _ ⟨rfl, rfl⟩
            rw [H5.out]
            go_wp2
            go_ret
            exact ⟨ret_bool E.out, by go_grown⟩
          · skip
            have E := hid (show true = okPipe N (p1, p2, p3, p4) by simp [okPipe, *])
            have H1 := hid c1
            have H2 := hid c2
            have H3 := hid c3
            have H5 := hid c5
            clear c1 c2 c3 c5
            go_enter Try.func95, Try.ntmps95
            go_wp2_with fail
            refine (s_l1In _ _ _ _).mono ?_
            rintro e _ ⟨rfl, rfl⟩
            rw [H1.out]
            go_wp2_with fail
            refine (s_l1In _ _ _ _).mono ?_
            rintro e _ ⟨rfl, rfl⟩
            rw [H2.out]
            go_wp2_with fail
            refine (s_l1In _ _ _ _).mono ?_
            rintro e _ ⟨rfl, rfl⟩
            rw [H3.out]
            go_wp2_with fail
            refine (s_l1In _ _ _ _).mono ?_
            rintro e _ ⟨rfl, rfl⟩
            rw [H5.out]
            go_wp2
            go_ret
            exact ⟨ret_bool (by rw [← E.out]; simpa using c4), by go_grown⟩

abbrev NetI (w wr : World) (N : Int) (b0 off0 n c k : Nat) (l : List Pip) (w' : World) : Prop := Below w.heap.size w w' ∧ w'.cell? ⟨w.heap.size, 0, none⟩ = some (.int .i64 N) ∧ w'.cell? ⟨w.heap.size, 1, none⟩ = some (.slice (some ⟨b0, off0, none⟩) n c) ∧ w'.cell? ⟨wr.heap.size, 0, none⟩ = some (.int .i64 (pp l k).1) ∧ w'.cell? ⟨wr.heap.size, 1, none⟩ = some (.int .i64 (pp l k).2.1) ∧ w'.cell? ⟨wr.heap.size, 2, none⟩ = some (.int .i64 (pp l k).2.2.1) ∧ w'.cell? ⟨wr.heap.size, 3, none⟩ = some (.int .i64 (pp l k).2.2.2) ∧ w'.cell? ⟨b0, off0 + (k - 1) * 4, none⟩ = some (.int .i64 (pp l (k - 1)).1)
theorem NetI.keep (w wr : World) (N : Int) (b0 off0 n c k : Nat) (l : List Pip) (wy w5 : World) (h : NetI w wr N b0 off0 n c k l wy) (hb : Below wy.heap.size wy w5) : NetI w wr N b0 off0 n c k l w5 :=
  let ⟨h0, x0, x1, x2, x3, x4, x5, x6⟩ := h
  ⟨bstep h0 hb, (hb.cell (World.block_lt_of_cell? wy _ x0)).trans x0, (hb.cell (World.block_lt_of_cell? wy _ x1)).trans x1, (hb.cell (World.block_lt_of_cell? wy _ x2)).trans x2, (hb.cell (World.block_lt_of_cell? wy _ x3)).trans x3, (hb.cell (World.block_lt_of_cell? wy _ x4)).trans x4, (hb.cell (World.block_lt_of_cell? wy _ x5)).trans x5, (hb.cell (World.block_lt_of_cell? wy _ x6)).trans x6⟩

abbrev NetS (w : World) (N : Int) (b0 off0 n c k : Nat) (l : List Pip) (w' : World) : Prop := Below w.heap.size w w' ∧ w'.cell? ⟨w.heap.size, 0, none⟩ = some (.int .i64 N) ∧ w'.cell? ⟨w.heap.size, 1, none⟩ = some (.slice (some ⟨b0, off0, none⟩) n c) ∧ w'.cell? ⟨b0, off0 + k * 4, none⟩ = some (.int .i64 (pp l k).1) ∧ w'.cell? ⟨b0, off0 + k * 4 + 1, none⟩ = some (.int .i64 (pp l k).2.1) ∧ w'.cell? ⟨b0, off0 + k * 4 + 2, none⟩ = some (.int .i64 (pp l k).2.2.1) ∧ w'.cell? ⟨b0, off0 + k * 4 + 3, none⟩ = some (.int .i64 (pp l k).2.2.2) ∧ w'.cell? ⟨b0, off0 + (k - 1) * 4, none⟩ = some (.int .i64 (pp l (k - 1)).1)
theorem NetS.keep (w : World) (N : Int) (b0 off0 n c k : Nat) (l : List Pip) (wy w5 : World) (h : NetS w N b0 off0 n c k l wy) (hb : Below wy.heap.size wy w5) : NetS w N b0 off0 n c k l w5 :=
  let ⟨h0, x0, x1, x2, x3, x4, x5, x6⟩ := h
  ⟨bstep h0 hb, (hb.cell (World.block_lt_of_cell? wy _ x0)).trans x0, (hb.cell (World.block_lt_of_cell? wy _ x1)).trans x1, (hb.cell (World.block_lt_of_cell? wy _ x2)).trans x2, (hb.cell (World.block_lt_of_cell? wy _ x3)).trans x3, (hb.cell (World.block_lt_of_cell? wy _ x4)).trans x4, (hb.cell (World.block_lt_of_cell? wy _ x5)).trans x5, (hb.cell (World.block_lt_of_cell? wy _ x6)).trans x6⟩

end Go.Proofs.Ytheaagbffphdmaa
