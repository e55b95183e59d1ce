/-
  Rings and trees: in the program and in the reference.
-/
import Derived.Test.YtheaagbffphdmaaParts
import Derived.Test.YtheaagbffphdmaaReached
import Derived.Test.YtheaagbffphdmaaNetS
set_option linter.unusedVariables false
set_option linter.unusedSimpArgs false
namespace Go.Proofs.Ytheaagbffphdmaa
open Go.RowKit

theorem drop_get {α : Type} {l : Array α} {i : Nat} {x : α} {r : List α} (h : l.toList.drop i = x :: r) : l[i]? = some x := by
  have e : (l.toList.drop i)[0]? = some x := by rw [h]; rfl
  rw [List.getElem?_drop] at e
  simpa using e
theorem wpAnyH_take' {P : Program} {md : Region.Mode} {ops : Array Oper} {Q : Exit → Act → World → Prop} {S : World → Prop} {i : Nat} {oi : Oper} {rest : List Oper} {v : Value} {fuel : Nat} {listed : Array Bool} {a : Act} {w : World} (hi : ops.toList.drop i = oi :: rest)
    (hs : Region.noSelect ops = true) (hf : Region.free md ops listed i = true) (hr : (Region.ready md ops listed).contains i = true)
    (hQ : ∀ c a w, Q (.panic c) (a.put oi.dst v) w → Q (.panic c) a w) (hy : YieldsIf P ops S oi v a) (hS : S w)
    (h : wpAnyH P md ops Q S fuel (listed.setIfInBounds i true) (a.put oi.dst v) w) : wpAnyH P md ops Q S (fuel + 1) listed a w :=
  wpAnyH_take (drop_get hi) hs hf hr hQ hy hS h
theorem allReadyH_cons' {P : Program} {md : Region.Mode} {ops : Array Oper} {Q : Exit → Act → World → Prop} {S : World → Prop} {fuel : Nat} {listed : Array Bool} {a : Act} {w : World} {i : Nat} {o : Oper} {rest : List Oper} {rs : List Nat} (ho : ops.toList.drop i = o :: rest)
    (h : ∀ K' : Act → World → Prop, Shut (∀ a w, S w → (S w → wpAnyH P md ops Q S fuel (listed.setIfInBounds i true) a w) → K' a w) → if Region.wanted o (yielded ops a.tmps) = true then Oper.wp P o a w K' Q else K' (a.put o.dst undef) w)
    (hs : AllReadyH P md ops Q S fuel listed a w rs) : AllReadyH P md ops Q S fuel listed a w (i :: rs) := AllReadyH.cons (drop_get ho) h hs

/-- As many pipes as nodes, and all nodes connected. -/
noncomputable def ringB (N : Int) (l : List Pip) : Bool := decide ((l.length : Int) = N) && decide (((reachL N l 0 1).length : Int) = N)
/-- One pipe less than nodes, and all nodes connected. -/
noncomputable def treeB (N : Int) (l : List Pip) : Bool := decide ((l.length : Int) = N - 1) && decide (((reachL N l 0 1).length : Int) = N)
theorem parts_one' {M : Nat} {l : List Pip} (hg : goodNet M l = true) : cnt M l M = 1 ↔ ((reachL M l 0 1).length : Int) = M := by
  have := parts_one hg
  simpa using this

set_option maxHeartbeats 1000000 in
theorem i_isRing (M : Nat) (a : Option Addr) (n c : Nat) (l : List Pip) (w : World) (h : QAt w a n l) (hg : goodNet M l = true) :
    Calls Try.prog 74 #[.agg #[.int .i64 M, .slice a n c]] w fun e w' => e = .returned (.bool (ringB M l)) ∧ Below w.heap.size w w' := by
  have hM : M ≤ 8 := by have := (goodNet_get hg).1; omega
  have hw : IntKind.i64.wrap ((M : Int) - 1) = (M : Int) - 1 := IntWalk.i64_in _ (by omega)
  have hp := parts_one' hg
  have hL := h.1
  have H := hid h
  have HG := hid hg
  clear h hg
  by_cases hn : (n : Int) = (M : Int)
  · have e1 : ((n : Int) == (M : Int)) = true := by simp [hn]
    by_cases hq : cnt M l M = 1
    · have E := hid (show true = ringB M l by simp [ringB, hL, hn, hp.1 hq])
      have HQ := hid hq
      clear hq hL hp hn
      go_enter Try.func74, Try.ntmps74
      go_wp2_with fail
      refine (i_networkParts M _ _ _ l _ (H.out.below (by go_grown)) HG.out).mono ?_
      rintro e w1 ⟨a1, c1, rfl, hb1⟩
      rw [HQ.out]
      have HB1 := hid (bstep (by go_grown) hb1 : Below w.heap.size w w1)
      clear hb1
      go_wp2
      go_ret
      exact ⟨ret_bool E.out, HB1.out⟩
    · obtain ⟨q, hQ⟩ : ∃ q, cnt M l M = q := ⟨_, rfl⟩
      have E := hid (show false = ringB M l by simp [ringB, hL, hn]; exact fun h => hq (hp.2 (by omega)))
      rw [hQ] at hq
      have e2 : ((q : Int) == 1) = false := by simp; omega
      have HQ := hid hQ
      clear hQ hq hL hp hn
      go_enter Try.func74, Try.ntmps74
      go_wp2_with fail
      refine (i_networkParts M _ _ _ l _ (H.out.below (by go_grown)) HG.out).mono ?_
      rintro e w1 ⟨a1, c1, rfl, hb1⟩
      rw [HQ.out]
      have HB1 := hid (bstep (by go_grown) hb1 : Below w.heap.size w w1)
      clear hb1
      go_wp2
      go_ret
      exact ⟨ret_bool E.out, HB1.out⟩
  · have e1 : ((n : Int) == (M : Int)) = false := by simp [hn]
    have E := hid (show false = ringB M l by simp [ringB, hL, hn])
    clear hL hp hn
    go_enter Try.func74, Try.ntmps74
    go_wp2
    go_ret
    exact ⟨ret_bool E.out, by go_grown⟩
set_option maxHeartbeats 1000000 in
theorem i_isTree (M : Nat) (a : Option Addr) (n c : Nat) (l : List Pip) (w : World) (h : QAt w a n l) (hg : goodNet M l = true) :
    Calls Try.prog 76 #[.agg #[.int .i64 M, .slice a n c]] w fun e w' => e = .returned (.bool (treeB M l)) ∧ Below w.heap.size w w' := by
  have hM : M ≤ 8 := by have := (goodNet_get hg).1; omega
  have hw : IntKind.i64.wrap ((M : Int) - 1) = (M : Int) - 1 := IntWalk.i64_in _ (by omega)
  have hp := parts_one' hg
  have hL := h.1
  have H := hid h
  have HG := hid hg
  clear h hg
  by_cases hn : (n : Int) = (M : Int) - 1
  · have e1 : ((n : Int) == (M : Int) - 1) = true := by simp [hn]
    by_cases hq : cnt M l M = 1
    · have E := hid (show true = treeB M l by simp [treeB, hL, hn, hp.1 hq])
      have HQ := hid hq
      clear hq hL hp hn
      go_enter Try.func76, Try.ntmps76
      go_wp2_with fail
      refine (i_networkParts M _ _ _ l _ (H.out.below (by go_grown)) HG.out).mono ?_
      rintro e w1 ⟨a1, c1, rfl, hb1⟩
      rw [HQ.out]
      have HB1 := hid (bstep (by go_grown) hb1 : Below w.heap.size w w1)
      clear hb1
      go_wp2
      go_ret
      exact ⟨ret_bool E.out, HB1.out⟩
    · obtain ⟨q, hQ⟩ : ∃ q, cnt M l M = q := ⟨_, rfl⟩
      have E := hid (show false = treeB M l by simp [treeB, hL, hn]; exact fun h => hq (hp.2 (by omega)))
      rw [hQ] at hq
      have e2 : ((q : Int) == 1) = false := by simp; omega
      have HQ := hid hQ
      clear hQ hq hL hp hn
      go_enter Try.func76, Try.ntmps76
      go_wp2_with fail
      refine (i_networkParts M _ _ _ l _ (H.out.below (by go_grown)) HG.out).mono ?_
      rintro e w1 ⟨a1, c1, rfl, hb1⟩
      rw [HQ.out]
      have HB1 := hid (bstep (by go_grown) hb1 : Below w.heap.size w w1)
      clear hb1
      go_wp2
      go_ret
      exact ⟨ret_bool E.out, HB1.out⟩
  · have e1 : ((n : Int) == (M : Int) - 1) = false := by simp [hn]
    have E := hid (show false = treeB M l by simp [treeB, hL, hn])
    clear hL hp hn
    go_enter Try.func76, Try.ntmps76
    go_wp2
    go_ret
    exact ⟨ret_bool E.out, by go_grown⟩
set_option maxHeartbeats 4000000 in
theorem s_l10Ring (M : Nat) (a : Option Addr) (n c : Nat) (l : List Pip) (w : World) (h : QAt w a n l) (hg : goodNet M l = true) :
    Calls Try.prog 73 #[.agg #[.int .i64 M, .slice a n c]] w fun e w' => e = .returned (.bool (ringB M l)) ∧ Below w.heap.size w w' := by
  have hM : M ≤ 8 := by have := (goodNet_get hg).1; omega
  have hM1 : 1 ≤ M := by have := (goodNet_get hg).1; omega
  have hw : IntKind.i64.wrap ((M : Int) - 1) = (M : Int) - 1 := IntWalk.i64_in _ (by omega)
  have hL := h.1
  have H := hid h
  have HG := hid hg
  clear h hg
  by_cases hq : (reachL M l 0 1).length = M
  · have HQ := hid hq
    by_cases hn : (n : Int) = (M : Int)
    · have e1 : ((n : Int) == (M : Int)) = true := by simp [hn]
      have E := hid (show true = ringB M l by simp [ringB, hL, hn, hq])
      clear hq hL hn
      go_enter Try.func73, Try.ntmps73
      go_upto_region 1 with fail
      have n0 : (w.alloc (.cells #[.int .i64 M, .slice a n c] 31)).cell? ⟨w.heap.size, 0, none⟩ = some (.int .i64 M) := by rw [cell_of_row _ _ _ _ _ (0, 0) (heap_alloc_new _ _)]; rfl
      have n1 : (w.alloc (.cells #[.int .i64 M, .slice a n c] 31)).cell? ⟨w.heap.size, 1, none⟩ = some (.slice a n c) := by rw [cell_of_row _ _ _ _ _ (0, 0) (heap_alloc_new _ _)]; rfl
      have HA := hid (H.out.below (by go_grown : Below w.heap.size w (w.alloc (.cells #[.int .i64 M, .slice a n c] 31))))
      have BA := hid (by go_grown : Below w.heap.size w (w.alloc (.cells #[.int .i64 M, .slice a n c] 31)))
      have hzA : w.heap.size < (w.alloc (.cells #[.int .i64 M, .slice a n c] 31)).heap.size := by simp
      generalize w.alloc (.cells #[.int .i64 M, .slice a n c] 31) = wA at *
      have q0 : ∀ wy w5 : World, Below wy.heap.size wy w5 → (wy.cell? ⟨w.heap.size, 0, none⟩ = some (.int .i64 M) ∧ wy.cell? ⟨w.heap.size, 1, none⟩ = some (.slice a n c)) → (w5.cell? ⟨w.heap.size, 0, none⟩ = some (.int .i64 M) ∧ w5.cell? ⟨w.heap.size, 1, none⟩ = some (.slice a n c)) :=
        fun wy w5 hb ⟨z1, z2⟩ => ⟨(hb.cell (World.block_lt_of_cell? wy _ z1)).trans z1, (hb.cell (World.block_lt_of_cell? wy _ z2)).trans z2⟩
      have Q0 := hid q0
      clear q0
      go_region_held3 (fun w' => (w'.cell? ⟨w.heap.size, 0, none⟩ = some (.int .i64 M) ∧ w'.cell? ⟨w.heap.size, 1, none⟩ = some (.slice a n c))) (first | go_keep | exact Q0.out _ _ (by assumption) (by first | assumption | (refine ⟨?_, ?_⟩ <;> assumption) | simp [*]))
        (first | (go_at_call 88; refine (s_l2Reached M 1 _ _ _ l _ (HA.out.below (by go_grown)) HG.out ⟨by omega, by omega⟩).mono ?_; rintro e w5 ⟨g5, c5, rfl, -, hb5⟩; rw [HQ.out]; obtain ⟨hc5, hf5⟩ := bcell hb5))
      all_goals
        have HB := hid (bstep BA.out (bstep (by go_grown) hb5 : Below wA.heap.size wA w5))
        clear hb5
        go_wp2
        go_ret
        exact ⟨ret_bool E.out, HB.out⟩
    · have e1 : ((n : Int) == (M : Int)) = false := by simp [hn]
      have E := hid (show false = ringB M l by simp [ringB, hL, hn])
      clear hq hL hn
      go_enter Try.func73, Try.ntmps73
      go_upto_region 1 with fail
      have n0 : (w.alloc (.cells #[.int .i64 M, .slice a n c] 31)).cell? ⟨w.heap.size, 0, none⟩ = some (.int .i64 M) := by rw [cell_of_row _ _ _ _ _ (0, 0) (heap_alloc_new _ _)]; rfl
      have n1 : (w.alloc (.cells #[.int .i64 M, .slice a n c] 31)).cell? ⟨w.heap.size, 1, none⟩ = some (.slice a n c) := by rw [cell_of_row _ _ _ _ _ (0, 0) (heap_alloc_new _ _)]; rfl
      have HA := hid (H.out.below (by go_grown : Below w.heap.size w (w.alloc (.cells #[.int .i64 M, .slice a n c] 31))))
      have BA := hid (by go_grown : Below w.heap.size w (w.alloc (.cells #[.int .i64 M, .slice a n c] 31)))
      have hzA : w.heap.size < (w.alloc (.cells #[.int .i64 M, .slice a n c] 31)).heap.size := by simp
      generalize w.alloc (.cells #[.int .i64 M, .slice a n c] 31) = wA at *
      have q0 : ∀ wy w5 : World, Below wy.heap.size wy w5 → (wy.cell? ⟨w.heap.size, 0, none⟩ = some (.int .i64 M) ∧ wy.cell? ⟨w.heap.size, 1, none⟩ = some (.slice a n c)) → (w5.cell? ⟨w.heap.size, 0, none⟩ = some (.int .i64 M) ∧ w5.cell? ⟨w.heap.size, 1, none⟩ = some (.slice a n c)) :=
        fun wy w5 hb ⟨z1, z2⟩ => ⟨(hb.cell (World.block_lt_of_cell? wy _ z1)).trans z1, (hb.cell (World.block_lt_of_cell? wy _ z2)).trans z2⟩
      have Q0 := hid q0
      clear q0
      go_region_held3 (fun w' => (w'.cell? ⟨w.heap.size, 0, none⟩ = some (.int .i64 M) ∧ w'.cell? ⟨w.heap.size, 1, none⟩ = some (.slice a n c))) (first | go_keep | exact Q0.out _ _ (by assumption) (by first | assumption | (refine ⟨?_, ?_⟩ <;> assumption) | simp [*]))
        (first | (go_at_call 88; refine (s_l2Reached M 1 _ _ _ l _ (HA.out.below (by go_grown)) HG.out ⟨by omega, by omega⟩).mono ?_; rintro e w5 ⟨g5, c5, rfl, -, hb5⟩; rw [HQ.out]; obtain ⟨hc5, hf5⟩ := bcell hb5))
      all_goals
        have HB := hid (bstep BA.out (bstep (by go_grown) hb5 : Below wA.heap.size wA w5))
        clear hb5
        go_wp2
        go_ret
        exact ⟨ret_bool E.out, HB.out⟩
  · obtain ⟨q, hQ⟩ : ∃ q, (reachL M l 0 1).length = q := ⟨_, rfl⟩
    have E := hid (show false = ringB M l by simp [ringB]; intro _; omega)
    rw [hQ] at hq
    have e2 : ((q : Int) == (M : Int)) = false := by simp; omega
    have HQ := hid hQ
    clear hq hL hQ
    go_enter Try.func73, Try.ntmps73
    go_upto_region 1 with fail
    have n0 : (w.alloc (.cells #[.int .i64 M, .slice a n c] 31)).cell? ⟨w.heap.size, 0, none⟩ = some (.int .i64 M) := by rw [cell_of_row _ _ _ _ _ (0, 0) (heap_alloc_new _ _)]; rfl
    have n1 : (w.alloc (.cells #[.int .i64 M, .slice a n c] 31)).cell? ⟨w.heap.size, 1, none⟩ = some (.slice a n c) := by rw [cell_of_row _ _ _ _ _ (0, 0) (heap_alloc_new _ _)]; rfl
    have HA := hid (H.out.below (by go_grown : Below w.heap.size w (w.alloc (.cells #[.int .i64 M, .slice a n c] 31))))
    have BA := hid (by go_grown : Below w.heap.size w (w.alloc (.cells #[.int .i64 M, .slice a n c] 31)))
    have hzA : w.heap.size < (w.alloc (.cells #[.int .i64 M, .slice a n c] 31)).heap.size := by simp
    generalize w.alloc (.cells #[.int .i64 M, .slice a n c] 31) = wA at *
    refine wp_region_noPanic ?_
    refine wp_region_held_drew (S := fun w' => (w'.cell? ⟨w.heap.size, 0, none⟩ = some (.int .i64 M) ∧ w'.cell? ⟨w.heap.size, 1, none⟩ = some (.slice a n c))) (by kernel_rfl) (by exact ⟨n0, n1⟩) (fun hHeld => ?_)
    refine wpAnyH_take' (i := 0) (v := ?_) rfl (by kernel_rfl) (by kernel_rfl) (by kernel_rfl) (fun _ _ _ h => h) (Or.inl ⟨by rfl, ?_⟩) (by assumption) ?_
    rotate_left
    · (intro w' hSw; (try dsimp only at hSw); go_simp; all_goals with_reducible rfl)
    try simp only [Act.put, List.setIfInBounds_toArray, List.set_cons_zero, List.set_cons_succ]
    refine wpAnyH_take' (i := 3) (v := ?_) rfl (by kernel_rfl) (by kernel_rfl) (by kernel_rfl) (fun _ _ _ h => h) (Or.inl ⟨by rfl, ?_⟩) (by assumption) ?_
    rotate_left
    · (intro w' hSw; (try dsimp only at hSw); go_simp; all_goals with_reducible rfl)
    try simp only [Act.put, List.setIfInBounds_toArray, List.set_cons_zero, List.set_cons_succ]
    refine wpAnyH_take' (i := 4) (v := ?_) rfl (by kernel_rfl) (by kernel_rfl) (by kernel_rfl) (fun _ _ _ h => h) (Or.inl ⟨by rfl, ?_⟩) (by assumption) ?_
    rotate_left
    · (intro w' hSw; (try dsimp only at hSw); go_simp; all_goals with_reducible rfl)
    try simp only [Act.put, List.setIfInBounds_toArray, List.set_cons_zero, List.set_cons_succ]
    refine wpAnyH_ready (rs := [1]) (by kernel_rfl) (by simp) ?_
    refine allReadyH_cons' rfl (fun K hK => ?_) AllReadyH.nil
    go_simp
    go_at_call 88
    refine (s_l2Reached M 1 _ _ _ l _ (HA.out.below (by go_grown)) HG.out ⟨by omega, by omega⟩).mono ?_
    rintro e w5 ⟨g5, c5, rfl, -, hb5⟩
    rw [HQ.out]
    refine hK.out _ _ ⟨(hb5.cell (p := ⟨w.heap.size, 0, none⟩) hzA).trans n0, (hb5.cell (p := ⟨w.heap.size, 1, none⟩) hzA).trans n1⟩ (fun hHeld5 => ?_)
    clear hK K
    try simp only [Act.put, List.setIfInBounds_toArray, List.set_cons_zero, List.set_cons_succ]
    refine wpAnyH_take' (i := 2) (v := ?_) rfl (by kernel_rfl) (by kernel_rfl) (by kernel_rfl) (fun _ _ _ h => h) (Or.inl ⟨by rfl, ?_⟩) (by assumption) ?_
    rotate_left
    · (intro w' hSw; (try dsimp only at hSw); go_simp; all_goals with_reducible rfl)
    try simp only [Act.put, List.setIfInBounds_toArray, List.set_cons_zero, List.set_cons_succ]
    refine wpAnyH_take' (i := 5) (v := ?_) rfl (by kernel_rfl) (by kernel_rfl) (by kernel_rfl) (fun _ _ _ h => h) (Or.inl ⟨by rfl, ?_⟩) (by assumption) ?_
    rotate_left
    · (intro w' hSw; (try dsimp only at hSw); go_simp; all_goals with_reducible rfl)
    try simp only [Act.put, List.setIfInBounds_toArray, List.set_cons_zero, List.set_cons_succ]
    refine wpAnyH_take' (i := 6) (v := ?_) rfl (by kernel_rfl) (by kernel_rfl) (by kernel_rfl) (fun _ _ _ h => h) (Or.inl ⟨by rfl, ?_⟩) (by assumption) ?_
    rotate_left
    · (intro w' hSw; (try dsimp only at hSw); go_simp; all_goals with_reducible rfl)
    try simp only [Act.put, List.setIfInBounds_toArray, List.set_cons_zero, List.set_cons_succ]
    refine wpAnyH_take' (i := 7) (v := undef) rfl (by kernel_rfl) (by kernel_rfl) (by kernel_rfl) (fun _ _ _ h => h) (Or.inr ⟨by rfl, rfl⟩) (by assumption) ?_
    try simp only [Act.put, List.setIfInBounds_toArray, List.set_cons_zero, List.set_cons_succ]
    refine wpAnyH_take' (i := 8) (v := undef) rfl (by kernel_rfl) (by kernel_rfl) (by kernel_rfl) (fun _ _ _ h => h) (Or.inr ⟨by rfl, rfl⟩) (by assumption) ?_
    try simp only [Act.put, List.setIfInBounds_toArray, List.set_cons_zero, List.set_cons_succ]
    refine wpAnyH_take' (i := 9) (v := undef) rfl (by kernel_rfl) (by kernel_rfl) (by kernel_rfl) (fun _ _ _ h => h) (Or.inr ⟨by rfl, rfl⟩) (by assumption) ?_
    try simp only [Act.put, List.setIfInBounds_toArray, List.set_cons_zero, List.set_cons_succ]
    refine wpAnyH_take' (i := 10) (v := undef) rfl (by kernel_rfl) (by kernel_rfl) (by kernel_rfl) (fun _ _ _ h => h) (Or.inr ⟨by rfl, rfl⟩) (by assumption) ?_
    try simp only [Act.put, List.setIfInBounds_toArray, List.set_cons_zero, List.set_cons_succ]
    refine wpAnyH_take' (i := 11) (v := undef) rfl (by kernel_rfl) (by kernel_rfl) (by kernel_rfl) (fun _ _ _ h => h) (Or.inr ⟨by rfl, rfl⟩) (by assumption) ?_
    try simp only [Act.put, List.setIfInBounds_toArray, List.set_cons_zero, List.set_cons_succ]
    refine wpAnyH_take' (i := 12) (v := undef) rfl (by kernel_rfl) (by kernel_rfl) (by kernel_rfl) (fun _ _ _ h => h) (Or.inr ⟨by rfl, rfl⟩) (by assumption) ?_
    try simp only [Act.put, List.setIfInBounds_toArray, List.set_cons_zero, List.set_cons_succ]
    refine wpAnyH_take' (i := 13) (v := ?_) rfl (by kernel_rfl) (by kernel_rfl) (by kernel_rfl) (fun _ _ _ h => h) (Or.inl ⟨by rfl, ?_⟩) (by assumption) ?_
    rotate_left
    · (intro w' hSw; (try dsimp only at hSw); go_simp; all_goals with_reducible rfl)
    try simp only [Act.put, List.setIfInBounds_toArray, List.set_cons_zero, List.set_cons_succ]
    refine wpAnyH_take' (i := 14) (v := ?_) rfl (by kernel_rfl) (by kernel_rfl) (by kernel_rfl) (fun _ _ _ h => h) (Or.inl ⟨by rfl, ?_⟩) (by assumption) ?_
    rotate_left
    · (intro w' hSw; (try dsimp only at hSw); go_simp; all_goals with_reducible rfl)
    try simp only [Act.put, List.setIfInBounds_toArray, List.set_cons_zero, List.set_cons_succ]
    refine wpAnyH_done (by kernel_rfl) ?_ _
    refine NoPanic.normal ?_
    have HB := hid (bstep BA.out (bstep (by go_grown) hb5 : Below wA.heap.size wA w5))
    clear hb5
    go_wp2
    go_ret
    exact ⟨ret_bool E.out, HB.out⟩
set_option maxHeartbeats 4000000 in
theorem s_l8Tree (M : Nat) (a : Option Addr) (n c : Nat) (l : List Pip) (w : World) (h : QAt w a n l) (hg : goodNet M l = true) :
    Calls Try.prog 75 #[.agg #[.int .i64 M, .slice a n c]] w fun e w' => e = .returned (.bool (treeB M l)) ∧ Below w.heap.size w w' := by
  have hM : M ≤ 8 := by have := (goodNet_get hg).1; omega
  have hM1 : 1 ≤ M := by have := (goodNet_get hg).1; omega
  have hw : IntKind.i64.wrap ((M : Int) - 1) = (M : Int) - 1 := IntWalk.i64_in _ (by omega)
  have hL := h.1
  have H := hid h
  have HG := hid hg
  clear h hg
  by_cases hq : (reachL M l 0 1).length = M
  · have HQ := hid hq
    by_cases hn : (n : Int) = (M : Int) - 1
    · have e1 : ((n : Int) == (M : Int) - 1) = true := by simp [hn]
      have E := hid (show true = treeB M l by simp [treeB, hL, hn, hq])
      clear hq hL hn
      go_enter Try.func75, Try.ntmps75
      go_upto_region 1 with fail
      have n0 : (w.alloc (.cells #[.int .i64 M, .slice a n c] 31)).cell? ⟨w.heap.size, 0, none⟩ = some (.int .i64 M) := by rw [cell_of_row _ _ _ _ _ (0, 0) (heap_alloc_new _ _)]; rfl
      have n1 : (w.alloc (.cells #[.int .i64 M, .slice a n c] 31)).cell? ⟨w.heap.size, 1, none⟩ = some (.slice a n c) := by rw [cell_of_row _ _ _ _ _ (0, 0) (heap_alloc_new _ _)]; rfl
      have HA := hid (H.out.below (by go_grown : Below w.heap.size w (w.alloc (.cells #[.int .i64 M, .slice a n c] 31))))
      have BA := hid (by go_grown : Below w.heap.size w (w.alloc (.cells #[.int .i64 M, .slice a n c] 31)))
      have hzA : w.heap.size < (w.alloc (.cells #[.int .i64 M, .slice a n c] 31)).heap.size := by simp
      generalize w.alloc (.cells #[.int .i64 M, .slice a n c] 31) = wA at *
      have q0 : ∀ wy w5 : World, Below wy.heap.size wy w5 → (wy.cell? ⟨w.heap.size, 0, none⟩ = some (.int .i64 M) ∧ wy.cell? ⟨w.heap.size, 1, none⟩ = some (.slice a n c)) → (w5.cell? ⟨w.heap.size, 0, none⟩ = some (.int .i64 M) ∧ w5.cell? ⟨w.heap.size, 1, none⟩ = some (.slice a n c)) :=
        fun wy w5 hb ⟨z1, z2⟩ => ⟨(hb.cell (World.block_lt_of_cell? wy _ z1)).trans z1, (hb.cell (World.block_lt_of_cell? wy _ z2)).trans z2⟩
      have Q0 := hid q0
      clear q0
      go_region_held3 (fun w' => (w'.cell? ⟨w.heap.size, 0, none⟩ = some (.int .i64 M) ∧ w'.cell? ⟨w.heap.size, 1, none⟩ = some (.slice a n c))) (first | go_keep | exact Q0.out _ _ (by assumption) (by first | assumption | (refine ⟨?_, ?_⟩ <;> assumption) | simp [*]))
        (first | (go_at_call 88; refine (s_l2Reached M 1 _ _ _ l _ (HA.out.below (by go_grown)) HG.out ⟨by omega, by omega⟩).mono ?_; rintro e w5 ⟨g5, c5, rfl, -, hb5⟩; rw [HQ.out]; obtain ⟨hc5, hf5⟩ := bcell hb5))
      all_goals
        have HB := hid (bstep BA.out (bstep (by go_grown) hb5 : Below wA.heap.size wA w5))
        clear hb5
        go_wp2
        go_ret
        exact ⟨ret_bool E.out, HB.out⟩
    · have e1 : ((n : Int) == (M : Int) - 1) = false := by simp [hn]
      have E := hid (show false = treeB M l by simp [treeB, hL, hn])
      clear hq hL hn
      go_enter Try.func75, Try.ntmps75
      go_upto_region 1 with fail
      have n0 : (w.alloc (.cells #[.int .i64 M, .slice a n c] 31)).cell? ⟨w.heap.size, 0, none⟩ = some (.int .i64 M) := by rw [cell_of_row _ _ _ _ _ (0, 0) (heap_alloc_new _ _)]; rfl
      have n1 : (w.alloc (.cells #[.int .i64 M, .slice a n c] 31)).cell? ⟨w.heap.size, 1, none⟩ = some (.slice a n c) := by rw [cell_of_row _ _ _ _ _ (0, 0) (heap_alloc_new _ _)]; rfl
      have HA := hid (H.out.below (by go_grown : Below w.heap.size w (w.alloc (.cells #[.int .i64 M, .slice a n c] 31))))
      have BA := hid (by go_grown : Below w.heap.size w (w.alloc (.cells #[.int .i64 M, .slice a n c] 31)))
      have hzA : w.heap.size < (w.alloc (.cells #[.int .i64 M, .slice a n c] 31)).heap.size := by simp
      generalize w.alloc (.cells #[.int .i64 M, .slice a n c] 31) = wA at *
      have q0 : ∀ wy w5 : World, Below wy.heap.size wy w5 → (wy.cell? ⟨w.heap.size, 0, none⟩ = some (.int .i64 M) ∧ wy.cell? ⟨w.heap.size, 1, none⟩ = some (.slice a n c)) → (w5.cell? ⟨w.heap.size, 0, none⟩ = some (.int .i64 M) ∧ w5.cell? ⟨w.heap.size, 1, none⟩ = some (.slice a n c)) :=
        fun wy w5 hb ⟨z1, z2⟩ => ⟨(hb.cell (World.block_lt_of_cell? wy _ z1)).trans z1, (hb.cell (World.block_lt_of_cell? wy _ z2)).trans z2⟩
      have Q0 := hid q0
      clear q0
      go_region_held3 (fun w' => (w'.cell? ⟨w.heap.size, 0, none⟩ = some (.int .i64 M) ∧ w'.cell? ⟨w.heap.size, 1, none⟩ = some (.slice a n c))) (first | go_keep | exact Q0.out _ _ (by assumption) (by first | assumption | (refine ⟨?_, ?_⟩ <;> assumption) | simp [*]))
        (first | (go_at_call 88; refine (s_l2Reached M 1 _ _ _ l _ (HA.out.below (by go_grown)) HG.out ⟨by omega, by omega⟩).mono ?_; rintro e w5 ⟨g5, c5, rfl, -, hb5⟩; rw [HQ.out]; obtain ⟨hc5, hf5⟩ := bcell hb5))
      all_goals
        have HB := hid (bstep BA.out (bstep (by go_grown) hb5 : Below wA.heap.size wA w5))
        clear hb5
        go_wp2
        go_ret
        exact ⟨ret_bool E.out, HB.out⟩
  · obtain ⟨q, hQ⟩ : ∃ q, (reachL M l 0 1).length = q := ⟨_, rfl⟩
    have E := hid (show false = treeB M l by simp [treeB]; intro _; omega)
    rw [hQ] at hq
    have e2 : ((q : Int) == (M : Int)) = false := by simp; omega
    have HQ := hid hQ
    clear hq hL hQ
    go_enter Try.func75, Try.ntmps75
    go_upto_region 1 with fail
    have n0 : (w.alloc (.cells #[.int .i64 M, .slice a n c] 31)).cell? ⟨w.heap.size, 0, none⟩ = some (.int .i64 M) := by rw [cell_of_row _ _ _ _ _ (0, 0) (heap_alloc_new _ _)]; rfl
    have n1 : (w.alloc (.cells #[.int .i64 M, .slice a n c] 31)).cell? ⟨w.heap.size, 1, none⟩ = some (.slice a n c) := by rw [cell_of_row _ _ _ _ _ (0, 0) (heap_alloc_new _ _)]; rfl
    have HA := hid (H.out.below (by go_grown : Below w.heap.size w (w.alloc (.cells #[.int .i64 M, .slice a n c] 31))))
    have BA := hid (by go_grown : Below w.heap.size w (w.alloc (.cells #[.int .i64 M, .slice a n c] 31)))
    have hzA : w.heap.size < (w.alloc (.cells #[.int .i64 M, .slice a n c] 31)).heap.size := by simp
    generalize w.alloc (.cells #[.int .i64 M, .slice a n c] 31) = wA at *
    refine wp_region_noPanic ?_
    refine wp_region_held_drew (S := fun w' => (w'.cell? ⟨w.heap.size, 0, none⟩ = some (.int .i64 M) ∧ w'.cell? ⟨w.heap.size, 1, none⟩ = some (.slice a n c))) (by kernel_rfl) (by exact ⟨n0, n1⟩) (fun hHeld => ?_)
    refine wpAnyH_take' (i := 0) (v := ?_) rfl (by kernel_rfl) (by kernel_rfl) (by kernel_rfl) (fun _ _ _ h => h) (Or.inl ⟨by rfl, ?_⟩) (by assumption) ?_
    rotate_left
    · (intro w' hSw; (try dsimp only at hSw); go_simp; all_goals with_reducible rfl)
    try simp only [Act.put, List.setIfInBounds_toArray, List.set_cons_zero, List.set_cons_succ]
    refine wpAnyH_take' (i := 3) (v := ?_) rfl (by kernel_rfl) (by kernel_rfl) (by kernel_rfl) (fun _ _ _ h => h) (Or.inl ⟨by rfl, ?_⟩) (by assumption) ?_
    rotate_left
    · (intro w' hSw; (try dsimp only at hSw); go_simp; all_goals with_reducible rfl)
    try simp only [Act.put, List.setIfInBounds_toArray, List.set_cons_zero, List.set_cons_succ]
    refine wpAnyH_take' (i := 4) (v := ?_) rfl (by kernel_rfl) (by kernel_rfl) (by kernel_rfl) (fun _ _ _ h => h) (Or.inl ⟨by rfl, ?_⟩) (by assumption) ?_
    rotate_left
    · (intro w' hSw; (try dsimp only at hSw); go_simp; all_goals with_reducible rfl)
    try simp only [Act.put, List.setIfInBounds_toArray, List.set_cons_zero, List.set_cons_succ]
    refine wpAnyH_ready (rs := [1]) (by kernel_rfl) (by simp) ?_
    refine allReadyH_cons' rfl (fun K hK => ?_) AllReadyH.nil
    go_simp
    go_at_call 88
    refine (s_l2Reached M 1 _ _ _ l _ (HA.out.below (by go_grown)) HG.out ⟨by omega, by omega⟩).mono ?_
    rintro e w5 ⟨g5, c5, rfl, -, hb5⟩
    rw [HQ.out]
    refine hK.out _ _ ⟨(hb5.cell (p := ⟨w.heap.size, 0, none⟩) hzA).trans n0, (hb5.cell (p := ⟨w.heap.size, 1, none⟩) hzA).trans n1⟩ (fun hHeld5 => ?_)
    clear hK K
    try simp only [Act.put, List.setIfInBounds_toArray, List.set_cons_zero, List.set_cons_succ]
    refine wpAnyH_take' (i := 2) (v := ?_) rfl (by kernel_rfl) (by kernel_rfl) (by kernel_rfl) (fun _ _ _ h => h) (Or.inl ⟨by rfl, ?_⟩) (by assumption) ?_
    rotate_left
    · (intro w' hSw; (try dsimp only at hSw); go_simp; all_goals with_reducible rfl)
    try simp only [Act.put, List.setIfInBounds_toArray, List.set_cons_zero, List.set_cons_succ]
    refine wpAnyH_take' (i := 5) (v := ?_) rfl (by kernel_rfl) (by kernel_rfl) (by kernel_rfl) (fun _ _ _ h => h) (Or.inl ⟨by rfl, ?_⟩) (by assumption) ?_
    rotate_left
    · (intro w' hSw; (try dsimp only at hSw); go_simp; all_goals with_reducible rfl)
    try simp only [Act.put, List.setIfInBounds_toArray, List.set_cons_zero, List.set_cons_succ]
    refine wpAnyH_take' (i := 6) (v := ?_) rfl (by kernel_rfl) (by kernel_rfl) (by kernel_rfl) (fun _ _ _ h => h) (Or.inl ⟨by rfl, ?_⟩) (by assumption) ?_
    rotate_left
    · (intro w' hSw; (try dsimp only at hSw); go_simp; all_goals with_reducible rfl)
    try simp only [Act.put, List.setIfInBounds_toArray, List.set_cons_zero, List.set_cons_succ]
    refine wpAnyH_take' (i := 7) (v := undef) rfl (by kernel_rfl) (by kernel_rfl) (by kernel_rfl) (fun _ _ _ h => h) (Or.inr ⟨by rfl, rfl⟩) (by assumption) ?_
    try simp only [Act.put, List.setIfInBounds_toArray, List.set_cons_zero, List.set_cons_succ]
    refine wpAnyH_take' (i := 8) (v := undef) rfl (by kernel_rfl) (by kernel_rfl) (by kernel_rfl) (fun _ _ _ h => h) (Or.inr ⟨by rfl, rfl⟩) (by assumption) ?_
    try simp only [Act.put, List.setIfInBounds_toArray, List.set_cons_zero, List.set_cons_succ]
    refine wpAnyH_take' (i := 9) (v := undef) rfl (by kernel_rfl) (by kernel_rfl) (by kernel_rfl) (fun _ _ _ h => h) (Or.inr ⟨by rfl, rfl⟩) (by assumption) ?_
    try simp only [Act.put, List.setIfInBounds_toArray, List.set_cons_zero, List.set_cons_succ]
    refine wpAnyH_take' (i := 10) (v := undef) rfl (by kernel_rfl) (by kernel_rfl) (by kernel_rfl) (fun _ _ _ h => h) (Or.inr ⟨by rfl, rfl⟩) (by assumption) ?_
    try simp only [Act.put, List.setIfInBounds_toArray, List.set_cons_zero, List.set_cons_succ]
    refine wpAnyH_take' (i := 11) (v := undef) rfl (by kernel_rfl) (by kernel_rfl) (by kernel_rfl) (fun _ _ _ h => h) (Or.inr ⟨by rfl, rfl⟩) (by assumption) ?_
    try simp only [Act.put, List.setIfInBounds_toArray, List.set_cons_zero, List.set_cons_succ]
    refine wpAnyH_take' (i := 12) (v := undef) rfl (by kernel_rfl) (by kernel_rfl) (by kernel_rfl) (fun _ _ _ h => h) (Or.inr ⟨by rfl, rfl⟩) (by assumption) ?_
    try simp only [Act.put, List.setIfInBounds_toArray, List.set_cons_zero, List.set_cons_succ]
    refine wpAnyH_take' (i := 13) (v := undef) rfl (by kernel_rfl) (by kernel_rfl) (by kernel_rfl) (fun _ _ _ h => h) (Or.inr ⟨by rfl, rfl⟩) (by assumption) ?_
    try simp only [Act.put, List.setIfInBounds_toArray, List.set_cons_zero, List.set_cons_succ]
    refine wpAnyH_take' (i := 14) (v := ?_) rfl (by kernel_rfl) (by kernel_rfl) (by kernel_rfl) (fun _ _ _ h => h) (Or.inl ⟨by rfl, ?_⟩) (by assumption) ?_
    rotate_left
    · (intro w' hSw; (try dsimp only at hSw); go_simp; all_goals with_reducible rfl)
    try simp only [Act.put, List.setIfInBounds_toArray, List.set_cons_zero, List.set_cons_succ]
    refine wpAnyH_take' (i := 15) (v := ?_) rfl (by kernel_rfl) (by kernel_rfl) (by kernel_rfl) (fun _ _ _ h => h) (Or.inl ⟨by rfl, ?_⟩) (by assumption) ?_
    rotate_left
    · (intro w' hSw; (try dsimp only at hSw); go_simp; all_goals with_reducible rfl)
    try simp only [Act.put, List.setIfInBounds_toArray, List.set_cons_zero, List.set_cons_succ]
    refine wpAnyH_done (by kernel_rfl) ?_ _
    refine NoPanic.normal ?_
    have HB := hid (bstep BA.out (bstep (by go_grown) hb5 : Below wA.heap.size wA w5))
    clear hb5
    go_wp2
    go_ret
    exact ⟨ret_bool E.out, HB.out⟩

/-- What IsRing, IsTreeNetwork return. -/
noncomputable def ringR (N : Int) (l : List Pip) : Bool × Bool := if goodNet N l = true then (ringB N l, true) else (false, false)
noncomputable def treeR (N : Int) (l : List Pip) : Bool × Bool := if goodNet N l = true then (treeB N l, true) else (false, false)
theorem i_IsRing (N : Int) (a : Option Addr) (n c : Nat) (l : List Pip) (w : World) (h : QAt w a n l) (hn : n ≤ 1048576) (x y : Bool) (hR : ringR N l = (x, y)) :
    Calls Try.prog 31 #[.agg #[.int .i64 N, .slice a n c]] w fun e w' => e = .returned (.tuple #[.bool x, .bool y]) ∧ Below w.heap.size w w' := by
  have H := hid h
  clear h
  cases h1 : goodNet N l
  · have HG := hid h1
    have e0 : ringR N l = (false, false) := by simp [ringR, h1]
    rw [e0] at hR
    cases hR
    clear h1 e0
    go_enter Try.func31, Try.ntmps31
    go_wp2_with fail
    refine (i_IsValidNetwork N _ _ _ l _ (H.out.below (by go_grown)) (by omega)).mono ?_
    rintro e w1 ⟨rfl, hb1⟩
    rw [HG.out]
    obtain ⟨hc_w1, hf_w1⟩ := bcell hb1
    have hz_w1_0 : w.heap.size < w1.heap.size := by have := hb1.size; simp only [World.size_alloc] at this; omega
    have HB1 := hid (bstep (by go_grown) hb1 : Below w.heap.size w w1)
    go_wp2
    go_ret2
    exact ⟨rfl, HB1.out⟩
  · have hN := (goodNet_get h1).1
    obtain ⟨M, rfl⟩ : ∃ M : Nat, N = M := ⟨N.toNat, by omega⟩
    have HG := hid h1
    have e0 : ringR M l = (ringB M l, true) := by simp [ringR, h1]
    rw [e0] at hR
    cases hR
    clear h1 e0 hN
    obtain ⟨z, hz⟩ : ∃ z, ringB M l = z := ⟨_, rfl⟩
    rw [hz]
    have HZ := hid hz
    clear hz
    go_enter Try.func31, Try.ntmps31
    go_wp2_with fail
    refine (i_IsValidNetwork M _ _ _ l _ (H.out.below (by go_grown)) (by omega)).mono ?_
    rintro e w1 ⟨rfl, hb1⟩
    rw [HG.out]
    obtain ⟨hc_w1, hf_w1⟩ := bcell hb1
    have hz_w1_0 : w.heap.size < w1.heap.size := by have := hb1.size; simp only [World.size_alloc] at this; omega
    have HB1 := hid (bstep (by go_grown) hb1 : Below w.heap.size w w1)
    go_wp2_with fail
    refine (i_isRing M _ _ _ l _ (H.out.below HB1.out) HG.out).mono ?_
    rintro e w2 ⟨rfl, hb2⟩
    rw [HZ.out]
    go_wp2
    go_ret2
    exact ⟨rfl, bstep HB1.out hb2⟩
theorem s_IsRing (N : Int) (a : Option Addr) (n c : Nat) (l : List Pip) (w : World) (h : QAt w a n l) (hn : n ≤ 1048576) (x y : Bool) (hR : ringR N l = (x, y)) :
    Calls Try.prog 30 #[.agg #[.int .i64 N, .slice a n c]] w fun e w' => e = .returned (.tuple #[.bool x, .bool y]) ∧ Below w.heap.size w w' := by
  have H := hid h
  clear h
  cases h1 : goodNet N l
  · have HG := hid h1
    have e0 : ringR N l = (false, false) := by simp [ringR, h1]
    rw [e0] at hR
    cases hR
    clear h1 e0
    go_enter Try.func30, Try.ntmps30
    go_wp2_with fail
    refine (s_l2Good N _ _ _ l _ (H.out.below (by go_grown)) (by omega)).mono ?_
    rintro e w1 ⟨rfl, hb1⟩
    rw [HG.out]
    obtain ⟨hc_w1, hf_w1⟩ := bcell hb1
    have hz_w1_0 : w.heap.size < w1.heap.size := by have := hb1.size; simp only [World.size_alloc] at this; omega
    have HB1 := hid (bstep (by go_grown) hb1 : Below w.heap.size w w1)
    go_wp2
    go_ret2
    exact ⟨rfl, HB1.out⟩
  · have hN := (goodNet_get h1).1
    obtain ⟨M, rfl⟩ : ∃ M : Nat, N = M := ⟨N.toNat, by omega⟩
    have HG := hid h1
    have e0 : ringR M l = (ringB M l, true) := by simp [ringR, h1]
    rw [e0] at hR
    cases hR
    clear h1 e0 hN
    obtain ⟨z, hz⟩ : ∃ z, ringB M l = z := ⟨_, rfl⟩
    rw [hz]
    have HZ := hid hz
    clear hz
    go_enter Try.func30, Try.ntmps30
    go_wp2_with fail
    refine (s_l2Good M _ _ _ l _ (H.out.below (by go_grown)) (by omega)).mono ?_
    rintro e w1 ⟨rfl, hb1⟩
    rw [HG.out]
    obtain ⟨hc_w1, hf_w1⟩ := bcell hb1
    have hz_w1_0 : w.heap.size < w1.heap.size := by have := hb1.size; simp only [World.size_alloc] at this; omega
    have HB1 := hid (bstep (by go_grown) hb1 : Below w.heap.size w w1)
    go_wp2_with fail
    refine (s_l10Ring M _ _ _ l _ (H.out.below HB1.out) HG.out).mono ?_
    rintro e w2 ⟨rfl, hb2⟩
    rw [HZ.out]
    go_wp2
    go_ret2
    exact ⟨rfl, bstep HB1.out hb2⟩
theorem i_IsTreeNetwork (N : Int) (a : Option Addr) (n c : Nat) (l : List Pip) (w : World) (h : QAt w a n l) (hn : n ≤ 1048576) (x y : Bool) (hR : treeR N l = (x, y)) :
    Calls Try.prog 33 #[.agg #[.int .i64 N, .slice a n c]] w fun e w' => e = .returned (.tuple #[.bool x, .bool y]) ∧ Below w.heap.size w w' := by
  have H := hid h
  clear h
  cases h1 : goodNet N l
  · have HG := hid h1
    have e0 : treeR N l = (false, false) := by simp [treeR, h1]
    rw [e0] at hR
    cases hR
    clear h1 e0
    go_enter Try.func33, Try.ntmps33
    go_wp2_with fail
    refine (i_IsValidNetwork N _ _ _ l _ (H.out.below (by go_grown)) (by omega)).mono ?_
    rintro e w1 ⟨rfl, hb1⟩
    rw [HG.out]
    obtain ⟨hc_w1, hf_w1⟩ := bcell hb1
    have hz_w1_0 : w.heap.size < w1.heap.size := by have := hb1.size; simp only [World.size_alloc] at this; omega
    have HB1 := hid (bstep (by go_grown) hb1 : Below w.heap.size w w1)
    go_wp2
    go_ret2
    exact ⟨rfl, HB1.out⟩
  · have hN := (goodNet_get h1).1
    obtain ⟨M, rfl⟩ : ∃ M : Nat, N = M := ⟨N.toNat, by omega⟩
    have HG := hid h1
    have e0 : treeR M l = (treeB M l, true) := by simp [treeR, h1]
    rw [e0] at hR
    cases hR
    clear h1 e0 hN
    obtain ⟨z, hz⟩ : ∃ z, treeB M l = z := ⟨_, rfl⟩
    rw [hz]
    have HZ := hid hz
    clear hz
    go_enter Try.func33, Try.ntmps33
    go_wp2_with fail
    refine (i_IsValidNetwork M _ _ _ l _ (H.out.below (by go_grown)) (by omega)).mono ?_
    rintro e w1 ⟨rfl, hb1⟩
    rw [HG.out]
    obtain ⟨hc_w1, hf_w1⟩ := bcell hb1
    have hz_w1_0 : w.heap.size < w1.heap.size := by have := hb1.size; simp only [World.size_alloc] at this; omega
    have HB1 := hid (bstep (by go_grown) hb1 : Below w.heap.size w w1)
    go_wp2_with fail
    refine (i_isTree M _ _ _ l _ (H.out.below HB1.out) HG.out).mono ?_
    rintro e w2 ⟨rfl, hb2⟩
    rw [HZ.out]
    go_wp2
    go_ret2
    exact ⟨rfl, bstep HB1.out hb2⟩
theorem s_IsTreeNetwork (N : Int) (a : Option Addr) (n c : Nat) (l : List Pip) (w : World) (h : QAt w a n l) (hn : n ≤ 1048576) (x y : Bool) (hR : treeR N l = (x, y)) :
    Calls Try.prog 32 #[.agg #[.int .i64 N, .slice a n c]] w fun e w' => e = .returned (.tuple #[.bool x, .bool y]) ∧ Below w.heap.size w w' := by
  have H := hid h
  clear h
  cases h1 : goodNet N l
  · have HG := hid h1
    have e0 : treeR N l = (false, false) := by simp [treeR, h1]
    rw [e0] at hR
    cases hR
    clear h1 e0
    go_enter Try.func32, Try.ntmps32
    go_wp2_with fail
    refine (s_l2Good N _ _ _ l _ (H.out.below (by go_grown)) (by omega)).mono ?_
    rintro e w1 ⟨rfl, hb1⟩
    rw [HG.out]
    obtain ⟨hc_w1, hf_w1⟩ := bcell hb1
    have hz_w1_0 : w.heap.size < w1.heap.size := by have := hb1.size; simp only [World.size_alloc] at this; omega
    have HB1 := hid (bstep (by go_grown) hb1 : Below w.heap.size w w1)
    go_wp2
    go_ret2
    exact ⟨rfl, HB1.out⟩
  · have hN := (goodNet_get h1).1
    obtain ⟨M, rfl⟩ : ∃ M : Nat, N = M := ⟨N.toNat, by omega⟩
    have HG := hid h1
    have e0 : treeR M l = (treeB M l, true) := by simp [treeR, h1]
    rw [e0] at hR
    cases hR
    clear h1 e0 hN
    obtain ⟨z, hz⟩ : ∃ z, treeB M l = z := ⟨_, rfl⟩
    rw [hz]
    have HZ := hid hz
    clear hz
    go_enter Try.func32, Try.ntmps32
    go_wp2_with fail
    refine (s_l2Good M _ _ _ l _ (H.out.below (by go_grown)) (by omega)).mono ?_
    rintro e w1 ⟨rfl, hb1⟩
    rw [HG.out]
    obtain ⟨hc_w1, hf_w1⟩ := bcell hb1
    have hz_w1_0 : w.heap.size < w1.heap.size := by have := hb1.size; simp only [World.size_alloc] at this; omega
    have HB1 := hid (bstep (by go_grown) hb1 : Below w.heap.size w w1)
    go_wp2_with fail
    refine (s_l8Tree M _ _ _ l _ (H.out.below HB1.out) HG.out).mono ?_
    rintro e w2 ⟨rfl, hb2⟩
    rw [HZ.out]
    go_wp2
    go_ret2
    exact ⟨rfl, bstep HB1.out hb2⟩

end Go.Proofs.Ytheaagbffphdmaa
