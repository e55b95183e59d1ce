/-
  Texts of this claim, joined: Rev.
-/
import Derived.Test.YtlnhikhpkcgegaaLo4
import Derived.Test.YtlnhikhpkcgegaaLo6
import Derived.Test.YtlnhikhpkcgegaaLo12
import Derived.Test.YtlnhikhpkcgegaaLo17
/-
  A reversed pipe.
-/
set_option linter.unusedVariables false
set_option linter.unusedSimpArgs false
namespace Go.Proofs.Ytlnhikhpkcgegaa
open Go.RowKit

def flipQ (p : Pip) : Pip := (p.1, p.2.2.1, p.2.1, p.2.2.2)
/-- What ReversedPipe returns. -/
def revR (N : Int) (l : List Pip) (fs : List Int) (id : Int) : Int × List Pip × List Int × Bool :=
  if goodNet N l = true ∧ goodFl l.length fs = true ∧ 0 ≤ findQ l id then (N, l.set (findQ l id).toNat (flipQ (pp l (findQ l id).toNat)), fs.set (findQ l id).toNat (-(fs[(findQ l id).toNat]?.getD 0)), true) else (0, [], [], false)
theorem revR_no {N : Int} {l : List Pip} {fs : List Int} {id : Int} (h : goodNet N l = false ∨ goodFl l.length fs = false ∨ findQ l id = -1) : revR N l fs id = (0, [], [], false) := by
  unfold revR
  rw [if_neg]
  rintro ⟨h1, h2, h3⟩
  rcases h with h | h | h
  · rw [h1] at h; cases h
  · rw [h2] at h; cases h
  · omega

theorem box_two {w : World} {b : Nat} {x y : Value} {t : TypeId} (h : w.heap[b]? = some (.cells #[x, y] t (0, 0))) : w.cell? ⟨b, 0, none⟩ = some x ∧ w.cell? ⟨b, 1, none⟩ = some y :=
  ⟨by rw [cell_of_row w _ _ _ _ (0, 0) h]; rfl, by rw [cell_of_row w _ _ _ _ (0, 0) h]; rfl⟩

theorem revR_len {N : Int} {l R : List Pip} {fs S : List Int} {id X : Int} {b : Bool} (h : revR N l fs id = (X, R, S, b)) : R.length ≤ 1000 ∧ S.length ≤ 1000 := by
  unfold revR at h
  split at h
  · rename_i h1
    have h2 := (goodNet_get h1.1).2.1
    have h3 := (goodFl_iff.1 h1.2.1).1
    cases h
    simp only [List.length_set]
    omega
  · cases h
    simp
theorem ap_symm {x y : Option Nat} (h : x = none ∨ x ≠ y) : y = none ∨ y ≠ x := by
  cases y with
  | none => exact .inl rfl
  | some k => exact .inr (fun e => by rcases h with h | h; (rw [h] at e; cases e); exact h e.symm)

/-- The turned network in its box, its pipes, the boxes of argument and result. -/
structure PB (w W : World) (b : Nat) (u v : Value) (N : Int) (a : Option Addr) (n c : Nat) (s : Value) (L : List Pip) : Prop where
  bel : Below w.heap.size w W
  arg : W.heap[w.heap.size]? = some (.cells #[.int .i64 N, .slice a n c] 26 (0, 0))
  res : W.heap[w.heap.size + 1]? = some (.cells #[.int .i64 0, .slice none 0 0] 26 (0, 0))
  box : W.heap[b]? = some (.cells #[u, v] 26 (0, 0))
  own : OwnQ W (w.heap.size + 2) s L
  ne : ∀ k, s.ownBlock = some k → k ≠ b
  lo : w.heap.size + 2 ≤ b
section
variable {w W W' : World} {b n c : Nat} {u v u' v' s : Value} {N : Int} {a : Option Addr} {L L' : List Pip}
theorem PB.lt (h : PB w W b u v N a n c s L) : b < W.heap.size := (Array.getElem?_eq_some_iff.1 h.box).1
theorem PB.below (h : PB w W b u v N a n c s L) (hb : Below W.heap.size W W') : PB w W' b u v N a n c s L := by
  have := h.lt
  have := h.lo
  exact ⟨bstep h.bel hb, (hb.block _ (by omega)).trans h.arg, (hb.block _ (by omega)).trans h.res, (hb.block _ (by omega)).trans h.box, OwnS.below h.own hb, h.ne, h.lo⟩
theorem PB.put (h : PB w W b u v N a n c s L) : PB w ((W.setCell ⟨b, 0, none⟩ u').setCell ⟨b, 1, none⟩ v') b u' v' N a n c s L := by
  have hlo := h.lo
  have h1 := heap_setCell_same _ b 1 _ _ v' (heap_setCell_same W b 0 _ _ u' h.box)
  simp only [List.setIfInBounds_toArray, List.set_cons_zero, List.set_cons_succ] at h1
  have hn : s.ownBlock = none ∨ s.ownBlock ≠ some b := by
    cases e : s.ownBlock with
    | none => exact .inl rfl
    | some k => exact .inr (fun e2 => h.ne k e (Option.some.inj e2))
  refine ⟨(h.bel.setCell (by show w.heap.size ≤ b; omega) _).setCell (by show w.heap.size ≤ b; omega) _, ?_, ?_, h1, OwnS.kept (OwnS.kept h.own (grown_setCell W b 0 _) hn) (grown_setCell _ b 1 _) hn, h.ne, h.lo⟩
  · exact (Below.heap_setCell _ _ _ _ (by show w.heap.size ≠ b; omega)).trans ((Below.heap_setCell _ _ _ _ (by show w.heap.size ≠ b; omega)).trans h.arg)
  · exact (Below.heap_setCell _ _ _ _ (by show w.heap.size + 1 ≠ b; omega)).trans ((Below.heap_setCell _ _ _ _ (by show w.heap.size + 1 ≠ b; omega)).trans h.res)
/-- A store into the pipes. -/
theorem PB.row {g m c' k j : Nat} {x : Value} {y : Pip} (h : PB w W b u v N a n c (.slice (some ⟨g, 0, none⟩) m c') L) (hk : k < m) (hj : j < 4) (hy : qf y = (qf (L[k]?.getD default)).set j x) : PB w (W.setCell ⟨g, k * 4 + j, none⟩ x) b u v N a n c (.slice (some ⟨g, 0, none⟩) m c') (L.set k y) := by
  have hg := (OwnS.lt h.own g rfl).1
  have hlo := h.lo
  have hgb : g ≠ b := h.ne g rfl
  refine ⟨h.bel.setCell (by show w.heap.size ≤ g; omega) _, ?_, ?_, ?_, (OwnS.set qf_len (by decide) h.own hk hj x y hy).1, h.ne, h.lo⟩
  · exact (Below.heap_setCell _ _ _ _ (by show w.heap.size ≠ g; omega)).trans h.arg
  · exact (Below.heap_setCell _ _ _ _ (by show w.heap.size + 1 ≠ g; omega)).trans h.res
  · exact (Below.heap_setCell _ _ _ _ (by show b ≠ g; omega)).trans h.box
theorem PB.far {g j : Nat} {x : Value} (h : PB w W b u v N a n c s L) (hb : b ≠ g) (hw : w.heap.size + 1 < g) (hs : ∀ k, s.ownBlock = some k → k ≠ g) : PB w (W.setCell ⟨g, j, none⟩ x) b u v N a n c s L := by
  refine ⟨h.bel.setCell (by show w.heap.size ≤ g; omega) _, ?_, ?_, ?_, OwnS.kept h.own (grown_setCell W g j _) ?_, h.ne, h.lo⟩
  · exact (Below.heap_setCell _ _ _ _ (by show w.heap.size ≠ g; omega)).trans h.arg
  · exact (Below.heap_setCell _ _ _ _ (by show w.heap.size + 1 ≠ g; omega)).trans h.res
  · exact (Below.heap_setCell _ _ _ _ (by show b ≠ g; omega)).trans h.box
  · cases e : s.ownBlock with
    | none => exact .inl rfl
    | some k => exact .inr (fun e2 => hs k e (Option.some.inj e2))
theorem or_ne' {x : Option Nat} {g : Nat} (h : ∀ q, x = some q → q ≠ g) : x = none ∨ x ≠ some g := by
  cases x with
  | none => exact .inl rfl
  | some q => exact .inr (fun e => h q rfl (Option.some.inj e))
theorem set_at (L : List Pip) (k : Nat) (y : Pip) (hk : k < L.length) : (L.set k y)[k]?.getD default = y := by simp [hk]
/-- A pipe turned: all its cells stored. -/
theorem PB.flip {g m c' k : Nat} (h : PB w W b u v N a n c (.slice (some ⟨g, 0, none⟩) m c') L) (hk : k < m) :
    PB w ((((W.setCell ⟨g, k * 4, none⟩ (.int .i64 (pp L k).1)).setCell ⟨g, k * 4 + 1, none⟩ (.int .i64 (pp L k).2.2.1)).setCell ⟨g, k * 4 + 2, none⟩ (.int .i64 (pp L k).2.1)).setCell ⟨g, k * 4 + 3, none⟩ (.int .i64 (pp L k).2.2.2)) b u v N a n c (.slice (some ⟨g, 0, none⟩) m c') (L.set k (flipQ (pp L k))) := by
  have hl : k < L.length := by have := OwnS.len h.own; omega
  have h1 := h.row (j := 0) (x := .int .i64 (pp L k).1) (y := pp L k) hk (by decide) rfl
  have h2 := h1.row (j := 1) (x := .int .i64 (pp L k).2.2.1) (y := ((pp L k).1, (pp L k).2.2.1, (pp L k).2.2.1, (pp L k).2.2.2)) hk (by decide) (by rw [set_at _ _ _ hl]; rfl)
  have h3 := h2.row (j := 2) (x := .int .i64 (pp L k).2.1) (y := flipQ (pp L k)) hk (by decide) (by rw [set_at _ _ _ (by simpa using hl)]; rfl)
  have h4 := h3.row (j := 3) (x := .int .i64 (pp L k).2.2.2) (y := flipQ (pp L k)) hk (by decide) (by rw [set_at _ _ _ (by simpa using hl)]; rfl)
  rw [List.set_set, List.set_set, List.set_set] at h4
  exact h4
/-- A pipe turned: its ends stored. -/
theorem PB.flip2 {g m c' k : Nat} (h : PB w W b u v N a n c (.slice (some ⟨g, 0, none⟩) m c') L) (hk : k < m) :
    PB w ((W.setCell ⟨g, k * 4 + 1, none⟩ (.int .i64 (pp L k).2.2.1)).setCell ⟨g, k * 4 + 2, none⟩ (.int .i64 (pp L k).2.1)) b u v N a n c (.slice (some ⟨g, 0, none⟩) m c') (L.set k (flipQ (pp L k))) := by
  have hl : k < L.length := by have := OwnS.len h.own; omega
  have h2 := h.row (j := 1) (x := .int .i64 (pp L k).2.2.1) (y := ((pp L k).1, (pp L k).2.2.1, (pp L k).2.2.1, (pp L k).2.2.2)) hk (by decide) rfl
  have h3 := h2.row (j := 2) (x := .int .i64 (pp L k).2.1) (y := flipQ (pp L k)) hk (by decide) (by rw [set_at _ _ _ (by simpa using hl)]; rfl)
  rw [List.set_set] at h3
  exact h3
end
theorem box_four {w : World} {b : Nat} {x y z u : Value} {t : TypeId} (h : w.heap[b]? = some (.cells #[x, y, z, u] t (0, 0))) : w.cell? ⟨b, 0, none⟩ = some x ∧ w.cell? ⟨b, 1, none⟩ = some y ∧ w.cell? ⟨b, 2, none⟩ = some z ∧ w.cell? ⟨b, 3, none⟩ = some u :=
  ⟨by rw [cell_of_row w _ _ _ _ (0, 0) h]; rfl, by rw [cell_of_row w _ _ _ _ (0, 0) h]; rfl, by rw [cell_of_row w _ _ _ _ (0, 0) h]; rfl, by rw [cell_of_row w _ _ _ _ (0, 0) h]; rfl⟩

set_option maxRecDepth 100000 in
set_option maxHeartbeats 8000000 in
theorem s_ReversedPipe (N q : Int) (a p : Option Addr) (n c m d : Nat) (l : List Pip) (fs : List Int) (w : World) (h : QAt w a n l) (h' : IntsAt w p m fs) (hn : n ≤ 1048576) (hm : m ≤ 1048576) (X : Int) (R : List Pip) (S : List Int) (b : Bool) (hR : revR N l fs q = (X, R, S, b)) :
    Calls Try.prog 23 #[.agg #[.int .i64 N, .slice a n c], .slice p m d, .int .i64 q] w fun e w' => ∃ a1 c1 a2 c2, e = .returned (.tuple #[.agg #[.int .i64 X, .slice a1 R.length c1], .slice a2 S.length c2, .bool b]) ∧ OwnQ w' w.heap.size (.slice a1 R.length c1) R ∧ OwnI w' w.heap.size (.slice a2 S.length c2) S ∧ (Value.ownBlock (.slice a1 R.length c1) = none ∨ Value.ownBlock (.slice a1 R.length c1) ≠ Value.ownBlock (.slice a2 S.length c2)) ∧ Below w.heap.size w w' := by
  have hl := h.1
  have H := hid h
  have H' := hid h'
  clear h h'
  have B0 := hid (by go_grown : Below w.heap.size w ((w.alloc (.cells #[.int .i64 N, .slice a n c] 26)).alloc (.cells #[.int .i64 0, .slice none 0 0] 26)))
  have TA := hid (mid_new w (.cells #[.int .i64 N, .slice a n c] 26) (.cells #[.int .i64 0, .slice none 0 0] 26) w.heap.size rfl)
  have TR := hid (last_new (w.alloc (.cells #[.int .i64 N, .slice a n c] 26)) (.cells #[.int .i64 0, .slice none 0 0] 26) (w.heap.size + 1) (by simp))
  have hz0 : w.heap.size + 1 < ((w.alloc (.cells #[.int .i64 N, .slice a n c] 26)).alloc (.cells #[.int .i64 0, .slice none 0 0] 26)).heap.size := by simp
  go_enter Try.func23, Try.ntmps23
  go_upto_region 1 with fail
  generalize (w.alloc (.cells #[.int .i64 N, .slice a n c] 26)).alloc (.cells #[.int .i64 0, .slice none 0 0] 26) = w0 at *
  obtain ⟨n0, n1⟩ := box_two TA.out
  have hz00 : w.heap.size < w0.heap.size := by omega
  go_wp2_with fail
  refine (s_l2Find N q _ _ _ l _ (H.out.below (bstep B0.out (by go_grown))) (by omega)).mono ?_
  rintro e w1 ⟨rfl, hb1⟩
  have B1 := hid (bstep B0.out hb1)
  have TA1 := hid ((hb1.block _ hz00).trans TA.out)
  have TR1 := hid ((hb1.block _ hz0).trans TR.out)
  have hz1 : w.heap.size + 1 < w1.heap.size := by have := hb1.size; omega
  have hz11 : w.heap.size < w1.heap.size := by omega
  clear hb1 n0 n1 TA TR hz0 hz00
  obtain ⟨n0, n1⟩ := box_two TA1.out
  go_wp2_with fail
  refine (s_l2Good N _ _ _ l _ (H.out.below B1.out) (by omega)).mono ?_
  rintro e w2 ⟨rfl, hb2⟩
  have B2 := hid (bstep B1.out hb2)
  have TA2 := hid ((hb2.block _ hz11).trans TA1.out)
  have TR2 := hid ((hb2.block _ hz1).trans TR1.out)
  have hz2 : w.heap.size + 1 < w2.heap.size := by have := hb2.size; omega
  have hz22 : w.heap.size < w2.heap.size := by omega
  clear hb2 n0 n1 TA1 TR1 hz1 hz11
  obtain ⟨n0, n1⟩ := box_two TA2.out
  obtain ⟨r0, r1⟩ := box_two TR2.out
  have fr := fun j => frozen_of_row w2 (w.heap.size + 1) j _ _ TR2.out
  cases hgd : goodNet N l
  · rw [revR_no (.inl hgd)] at hR
    cases hR
    clear hgd hl
    go_wp2
    refine bodyPost_ret (v := .tuple #[.agg #[.int .i64 0, .slice none 0 0], (.slice (some ⟨w2.heap.size, 0, none⟩) 0 0), .bool false]) (by simp [results, Try.results23, go_sem, *]) rfl ⟨none, 0, _, _, rfl, OwnS.nil _ _, ?_, .inl rfl, ?_⟩
    · exact (OwnI.lit0' (by simp)).mono (by omega)
    · exact bstep (show Below w.heap.size w ((w2.setCell ⟨w.heap.size + 1, 0, none⟩ (.int .i64 0)).setCell ⟨w.heap.size + 1, 1, none⟩ (.slice none 0 0)) from (B2.out.setCell (Nat.le_succ _) _).setCell (Nat.le_succ _) _) (by go_grown)
  · have HG := hid hgd
    clear hgd
    go_wp2_with fail
    refine (s_l8Flows N _ _ _ _ _ _ fs _ (H'.out.below B2.out) (by omega)).mono ?_
    rintro e w3 ⟨rfl, hb3⟩
    have B3 := hid (bstep B2.out hb3)
    have TA3 := hid ((hb3.block _ hz22).trans TA2.out)
    have TR3 := hid ((hb3.block _ hz2).trans TR2.out)
    have hz3 : w.heap.size + 1 < w3.heap.size := by have := hb3.size; omega
    have hz33 : w.heap.size < w3.heap.size := by omega
    clear hb3 n0 n1 r0 r1 fr TA2 TR2 hz2 hz22
    obtain ⟨n0, n1⟩ := box_two TA3.out
    obtain ⟨r0, r1⟩ := box_two TR3.out
    have fr := fun j => frozen_of_row w3 (w.heap.size + 1) j _ _ TR3.out
    cases hfd : goodFl n fs
    · rw [revR_no (.inr (.inl (by rw [hl]; exact hfd)))] at hR
      cases hR
      clear hfd hl
      go_wp2
      refine bodyPost_ret (v := .tuple #[.agg #[.int .i64 0, .slice none 0 0], (.slice (some ⟨w3.heap.size, 0, none⟩) 0 0), .bool false]) (by simp [results, Try.results23, go_sem, *]) rfl ⟨none, 0, _, _, rfl, OwnS.nil _ _, ?_, .inl rfl, ?_⟩
      · exact (OwnI.lit0' (by simp)).mono (by omega)
      · exact bstep (show Below w.heap.size w ((w3.setCell ⟨w.heap.size + 1, 0, none⟩ (.int .i64 0)).setCell ⟨w.heap.size + 1, 1, none⟩ (.slice none 0 0)) from (B3.out.setCell (Nat.le_succ _) _).setCell (Nat.le_succ _) _) (by go_grown)
    · rcases findQ_cases l q with h3 | ⟨k, hk, h3⟩
      · rw [revR_no (.inr (.inr h3))] at hR
        cases hR
        rw [h3]
        clear hfd hl h3
        go_wp2
        refine bodyPost_ret (v := .tuple #[.agg #[.int .i64 0, .slice none 0 0], (.slice (some ⟨w3.heap.size, 0, none⟩) 0 0), .bool false]) (by simp [results, Try.results23, go_sem, *]) rfl ⟨none, 0, _, _, rfl, OwnS.nil _ _, ?_, .inl rfl, ?_⟩
        · exact (OwnI.lit0' (by simp)).mono (by omega)
        · exact bstep (show Below w.heap.size w ((w3.setCell ⟨w.heap.size + 1, 0, none⟩ (.int .i64 0)).setCell ⟨w.heap.size + 1, 1, none⟩ (.slice none 0 0)) from (B3.out.setCell (Nat.le_succ _) _).setCell (Nat.le_succ _) _) (by go_grown)
      · have e0 : revR N l fs q = (N, l.set k (flipQ (pp l k)), fs.set k (-(fs[k]?.getD 0)), true) := by
          unfold revR
          rw [if_pos ⟨HG.out, by rw [hl]; exact hfd, by omega⟩, h3]
          rfl
        rw [e0] at hR
        cases hR
        rw [h3]
        have hmn : m = n := by have := (goodFl_iff.1 hfd).1; have := H'.out.1; omega
        subst hmn
        have hkm : k < m := by omega
        have hk0 : ¬ ((k : Int) < 0) := by omega
        have hq8 := (goodFl_iff.1 hfd).2 _ (getD_mem' (k := k) (by have := H'.out.1; omega))
        have HLL := hid hl
        have HFD := hid hfd
        clear h3 e0 hl hfd hk
        go_upto_region 4 with fail
        go_cut [10] (fun s10 wx => ∃ (b : Nat) (a' : Option Addr) (c' : Nat), s10 = .pointer (some ⟨b, 0, none⟩) ∧ Hid (PB w wx b (.int .i64 N) (.slice a' m c') N a m c (.slice a' m c') l))
        case first =>
          refine wp_region_noPanic ?_
          refine wp_region_held_drew (S := (fun w' => w'.cell? ⟨w.heap.size, 0, none⟩ = some (.int .i64 N) ∧ w'.cell? ⟨w.heap.size, 1, none⟩ = some (.slice a m c))) (by kernel_rfl) (by exact ⟨n0, n1⟩) (fun hHeld => ?_)
          refine wpAnyH_take' (i := 0) (v := ?_) rfl (by kernel_rfl) (by kernel_rfl) (by kernel_rfl) (fun _ _ _ h => h) (Or.inl ⟨by rfl, ?_⟩) (by assumption) ?_
          rotate_left
          · (intro w' hSw; (try dsimp only at hSw); go_simp; all_goals with_reducible rfl)
          try simp only [Act.put, List.setIfInBounds_toArray, List.set_cons_zero, List.set_cons_succ]
          refine wpAnyH_take' (i := 1) (v := ?_) rfl (by kernel_rfl) (by kernel_rfl) (by kernel_rfl) (fun _ _ _ h => h) (Or.inl ⟨by rfl, ?_⟩) (by assumption) ?_
          rotate_left
          · (intro w' hSw; (try dsimp only at hSw); go_simp; all_goals with_reducible rfl)
          try simp only [Act.put, List.setIfInBounds_toArray, List.set_cons_zero, List.set_cons_succ]
          refine wpAnyH_take' (i := 3) (v := ?_) rfl (by kernel_rfl) (by kernel_rfl) (by kernel_rfl) (fun _ _ _ h => h) (Or.inl ⟨by rfl, ?_⟩) (by assumption) ?_
          rotate_left
          · (intro w' hSw; (try dsimp only at hSw); go_simp; all_goals with_reducible rfl)
          try simp only [Act.put, List.setIfInBounds_toArray, List.set_cons_zero, List.set_cons_succ]
          refine wpAnyH_take' (i := 4) (v := ?_) rfl (by kernel_rfl) (by kernel_rfl) (by kernel_rfl) (fun _ _ _ h => h) (Or.inl ⟨by rfl, ?_⟩) (by assumption) ?_
          rotate_left
          · (intro w' hSw; (try dsimp only at hSw); go_simp; all_goals with_reducible rfl)
          try simp only [Act.put, List.setIfInBounds_toArray, List.set_cons_zero, List.set_cons_succ]
          refine wpAnyH_ready (rs := [2, 7]) (by kernel_rfl) (by simp) ?_
          refine allReadyH_cons' rfl (fun Kn hKn => ?_) (allReadyH_cons' rfl (fun Kn hKn => ?_) AllReadyH.nil)
          · go_simp
            have OA := hid (OwnS.drew' (OwnS.lit0' (w := w3) rfl))
            have BA := hid (by go_grown : Below w3.heap.size w3 (w3.alloc (.cells #[] 40)).drew)
            have hz4 : w3.heap.size < (w3.alloc (.cells #[] 40)).drew.heap.size := by simp
            generalize (w3.alloc (.cells #[] 40)).drew = w4 at *
            refine hKn.out _ _ (box_two ((BA.out.block _ hz33).trans TA3.out)) (fun hHeldN => ?_)
            clear hKn Kn hHeld
            have hHeld := hHeldN
            clear hHeldN
            try simp only [Act.put, List.setIfInBounds_toArray, List.set_cons_zero, List.set_cons_succ]
            refine wpAnyH_ready (rs := [5, 7]) (by kernel_rfl) (by simp) ?_
            refine allReadyH_cons' rfl (fun Kn hKn => ?_) (allReadyH_cons' rfl (fun Kn hKn => ?_) AllReadyH.nil)
            · refine step_append_q (by rfl) _ _ (by rfl) w3.heap.size _ [] (by rfl) OA.out _ m _ l (by rfl) (H.out.below (bstep B3.out BA.out)) m (by simp) (by omega) (by have := BA.out.size; omega) ?_
              intro a5 c5 w5 hown hgrow hblk
              rw [List.nil_append] at hown
              have BY := hid (BA.out.grown hgrow BA.out.size (fun q hq => by have := OwnS.lt OA.out q hq; omega))
              have P5 := hid (show PB w (w5.alloc (.cells #[.int .i64 0, .slice none 0 0] 26)) w5.heap.size (.int .i64 0) (.slice none 0 0) N a m c (.slice a5 m c5) l from
                ⟨bstep B3.out (bstep BY.out (by go_grown)), (Below.heap_alloc _ _ _ (by have := BY.out.size; omega)).trans ((BY.out.block _ hz33).trans TA3.out), (Below.heap_alloc _ _ _ (by have := BY.out.size; omega)).trans ((BY.out.block _ hz3).trans TR3.out), heap_alloc_new _ _, OwnS.alloc (OwnS.mono hown (by omega)) _, fun k e => by have := OwnS.lt hown k e; omega, by have := BY.out.size; omega⟩)
              refine hKn.out _ _ (box_two ((BY.out.block _ hz33).trans TA3.out)) (fun hHeldN => ?_)
              clear hKn Kn hHeld
              have hHeld := hHeldN
              clear hHeldN
              try simp only [Act.put, List.setIfInBounds_toArray, List.set_cons_zero, List.set_cons_succ]
              clear hown hgrow hblk
              refine wpAnyH_take' (i := 6) (v := ?_) rfl (by kernel_rfl) (by kernel_rfl) (by kernel_rfl) (fun _ _ _ h => h) (Or.inl ⟨by rfl, ?_⟩) (by assumption) ?_
              rotate_left
              · (intro w' hSw; (try dsimp only at hSw); go_simp; all_goals with_reducible rfl)
              try simp only [Act.put, List.setIfInBounds_toArray, List.set_cons_zero, List.set_cons_succ]
              refine wpAnyH_ready (rs := [7]) (by kernel_rfl) (by simp) ?_
              refine allReadyH_cons' rfl (fun Kn hKn => ?_) AllReadyH.nil
              go_simp
              refine hKn.out _ _ (box_two P5.out.arg) (fun hHeldN => ?_)
              clear hKn Kn hHeld
              have hHeld := hHeldN
              clear hHeldN
              try simp only [Act.put, List.setIfInBounds_toArray, List.set_cons_zero, List.set_cons_succ]
              generalize w5.alloc (.cells #[.int .i64 0, .slice none 0 0] 26) = w6 at *
              obtain ⟨y0, y1⟩ := box_two P5.out.box
              have fy := fun j => frozen_of_row w6 _ j _ _ P5.out.box
              have hly := P5.out.lt
              have PZ := hid (P5.out.put (u' := .int .i64 N) (v' := .slice a5 m c5))
              refine wpAnyH_ready (rs := [8]) (by kernel_rfl) (by simp) ?_
              refine allReadyH_cons' rfl (fun Kn hKn => ?_) AllReadyH.nil
              go_simp
              refine hKn.out _ _ (box_two PZ.out.arg) (fun hHeldN => ?_)
              clear hKn Kn hHeld
              have hHeld := hHeldN
              clear hHeldN
              try simp only [Act.put, List.setIfInBounds_toArray, List.set_cons_zero, List.set_cons_succ]
              refine wpAnyH_done (by kernel_rfl) ?_ _
              refine NoPanic.normal ?_
              clear hHeld
              go_wp2_with fail
              go_meet
              exact ⟨_, _, _, rfl, PZ⟩
            · go_simp
              have OC := hid (OwnS.alloc OA.out (.cells #[.int .i64 0, .slice none 0 0] 26))
              have BC := hid (bstep BA.out (by go_grown : Below w4.heap.size w4 (w4.alloc (.cells #[.int .i64 0, .slice none 0 0] 26))))
              have TB := hid (heap_alloc_new w4 (.cells #[.int .i64 0, .slice none 0 0] 26))
              have hz6 : w4.heap.size < (w4.alloc (.cells #[.int .i64 0, .slice none 0 0] 26)).heap.size := by simp
              generalize w4.alloc (.cells #[.int .i64 0, .slice none 0 0] 26) = w6 at *
              refine hKn.out _ _ (box_two ((BC.out.block _ hz33).trans TA3.out)) (fun hHeldN => ?_)
              clear hKn Kn hHeld
              have hHeld := hHeldN
              clear hHeldN
              try simp only [Act.put, List.setIfInBounds_toArray, List.set_cons_zero, List.set_cons_succ]
              refine wpAnyH_ready (rs := [5]) (by kernel_rfl) (by simp) ?_
              refine allReadyH_cons' rfl (fun Kn hKn => ?_) AllReadyH.nil
              refine step_append_q (by rfl) _ _ (by rfl) w3.heap.size _ [] (by rfl) OC.out _ m _ l (by rfl) (H.out.below (bstep B3.out BC.out)) m (by simp) (by omega) (by have := BC.out.size; omega) ?_
              intro a5 c5 w5 hown hgrow hblk
              rw [List.nil_append] at hown
              have BY := hid (BC.out.grown hgrow BC.out.size (fun q hq => by have := OwnS.lt OC.out q hq; omega))
              have P5 := hid (show PB w w5 w4.heap.size (.int .i64 0) (.slice none 0 0) N a m c (.slice a5 m c5) l from
                ⟨bstep B3.out BY.out, (BY.out.block _ hz33).trans TA3.out, (BY.out.block _ hz3).trans TR3.out, (hgrow.block _ hz6 (fun e => by have h2 : w4.heap.size = w3.heap.size := Option.some.inj e; omega)).trans TB.out, OwnS.mono hown (by omega), fun k e => by rcases hblk with h | h; (rw [h] at e; have h2 : w3.heap.size = k := Option.some.inj e; omega); (rw [h] at e; have h2 : w6.heap.size = k := Option.some.inj e; omega), by omega⟩)
              refine hKn.out _ _ (box_two P5.out.arg) (fun hHeldN => ?_)
              clear hKn Kn hHeld
              have hHeld := hHeldN
              clear hHeldN
              try simp only [Act.put, List.setIfInBounds_toArray, List.set_cons_zero, List.set_cons_succ]
              clear hown hgrow hblk
              refine wpAnyH_take' (i := 6) (v := ?_) rfl (by kernel_rfl) (by kernel_rfl) (by kernel_rfl) (fun _ _ _ h => h) (Or.inl ⟨by rfl, ?_⟩) (by assumption) ?_
              rotate_left
              · (intro w' hSw; (try dsimp only at hSw); go_simp; all_goals with_reducible rfl)
              try simp only [Act.put, List.setIfInBounds_toArray, List.set_cons_zero, List.set_cons_succ]
              obtain ⟨y0, y1⟩ := box_two P5.out.box
              have fy := fun j => frozen_of_row w5 _ j _ _ P5.out.box
              have hly := P5.out.lt
              have PZ := hid (P5.out.put (u' := .int .i64 N) (v' := .slice a5 m c5))
              refine wpAnyH_ready (rs := [8]) (by kernel_rfl) (by simp) ?_
              refine allReadyH_cons' rfl (fun Kn hKn => ?_) AllReadyH.nil
              go_simp
              refine hKn.out _ _ (box_two PZ.out.arg) (fun hHeldN => ?_)
              clear hKn Kn hHeld
              have hHeld := hHeldN
              clear hHeldN
              try simp only [Act.put, List.setIfInBounds_toArray, List.set_cons_zero, List.set_cons_succ]
              refine wpAnyH_done (by kernel_rfl) ?_ _
              refine NoPanic.normal ?_
              clear hHeld
              go_wp2_with fail
              go_meet
              exact ⟨_, _, _, rfl, PZ⟩
          · go_simp
            have TB := hid (show (w3.alloc (.cells #[.int .i64 0, .slice none 0 0] 26)).drew.heap[w3.heap.size]? = some (.cells #[.int .i64 0, .slice none 0 0] 26 (0, 0)) from heap_alloc_new w3 _)
            have BA := hid (by go_grown : Below w3.heap.size w3 (w3.alloc (.cells #[.int .i64 0, .slice none 0 0] 26)).drew)
            have hz4 : w3.heap.size < (w3.alloc (.cells #[.int .i64 0, .slice none 0 0] 26)).drew.heap.size := by simp
            generalize (w3.alloc (.cells #[.int .i64 0, .slice none 0 0] 26)).drew = w4 at *
            refine hKn.out _ _ (box_two ((BA.out.block _ hz33).trans TA3.out)) (fun hHeldN => ?_)
            clear hKn Kn hHeld
            have hHeld := hHeldN
            clear hHeldN
            try simp only [Act.put, List.setIfInBounds_toArray, List.set_cons_zero, List.set_cons_succ]
            refine wpAnyH_ready (rs := [2]) (by kernel_rfl) (by simp) ?_
            refine allReadyH_cons' rfl (fun Kn hKn => ?_) AllReadyH.nil
            go_simp
            have OC := hid (OwnS.lit0' (w := w4) rfl)
            have BC := hid (bstep BA.out (by go_grown : Below w4.heap.size w4 (w4.alloc (.cells #[] 40))))
            have TC := hid ((Below.heap_alloc w4 (.cells #[] 40) _ (by omega)).trans TB.out)
            have hz6 : w3.heap.size < (w4.alloc (.cells #[] 40)).heap.size := by simp; omega
            have hz7 : w4.heap.size < (w4.alloc (.cells #[] 40)).heap.size := by simp
            generalize w4.alloc (.cells #[] 40) = w6 at *
            refine hKn.out _ _ (box_two ((BC.out.block _ hz33).trans TA3.out)) (fun hHeldN => ?_)
            clear hKn Kn hHeld
            have hHeld := hHeldN
            clear hHeldN
            try simp only [Act.put, List.setIfInBounds_toArray, List.set_cons_zero, List.set_cons_succ]
            refine wpAnyH_ready (rs := [5]) (by kernel_rfl) (by simp) ?_
            refine allReadyH_cons' rfl (fun Kn hKn => ?_) AllReadyH.nil
            refine step_append_q (by rfl) _ _ (by rfl) w4.heap.size _ [] (by rfl) OC.out _ m _ l (by rfl) (H.out.below (bstep B3.out BC.out)) m (by simp) (by omega) (by have := BC.out.size; omega) ?_
            intro a5 c5 w5 hown hgrow hblk
            rw [List.nil_append] at hown
            have BY := hid (BC.out.grown hgrow BC.out.size (fun q hq => by have := OwnS.lt OC.out q hq; omega))
            have P5 := hid (show PB w w5 w3.heap.size (.int .i64 0) (.slice none 0 0) N a m c (.slice a5 m c5) l from
              ⟨bstep B3.out BY.out, (BY.out.block _ hz33).trans TA3.out, (BY.out.block _ hz3).trans TR3.out, (hgrow.block _ hz6 (fun e => by have h2 : w3.heap.size = w4.heap.size := Option.some.inj e; omega)).trans TC.out, OwnS.mono hown (by omega), fun k e => by rcases hblk with h | h; (rw [h] at e; have h2 : w4.heap.size = k := Option.some.inj e; omega); (rw [h] at e; have h2 : w6.heap.size = k := Option.some.inj e; omega), by omega⟩)
            refine hKn.out _ _ (box_two P5.out.arg) (fun hHeldN => ?_)
            clear hKn Kn hHeld
            have hHeld := hHeldN
            clear hHeldN
            try simp only [Act.put, List.setIfInBounds_toArray, List.set_cons_zero, List.set_cons_succ]
            clear hown hgrow hblk
            refine wpAnyH_take' (i := 6) (v := ?_) rfl (by kernel_rfl) (by kernel_rfl) (by kernel_rfl) (fun _ _ _ h => h) (Or.inl ⟨by rfl, ?_⟩) (by assumption) ?_
            rotate_left
            · (intro w' hSw; (try dsimp only at hSw); go_simp; all_goals with_reducible rfl)
            try simp only [Act.put, List.setIfInBounds_toArray, List.set_cons_zero, List.set_cons_succ]
            obtain ⟨y0, y1⟩ := box_two P5.out.box
            have fy := fun j => frozen_of_row w5 _ j _ _ P5.out.box
            have hly := P5.out.lt
            have PZ := hid (P5.out.put (u' := .int .i64 N) (v' := .slice a5 m c5))
            refine wpAnyH_ready (rs := [8]) (by kernel_rfl) (by simp) ?_
            refine allReadyH_cons' rfl (fun Kn hKn => ?_) AllReadyH.nil
            go_simp
            refine hKn.out _ _ (box_two PZ.out.arg) (fun hHeldN => ?_)
            clear hKn Kn hHeld
            have hHeld := hHeldN
            clear hHeldN
            try simp only [Act.put, List.setIfInBounds_toArray, List.set_cons_zero, List.set_cons_succ]
            refine wpAnyH_done (by kernel_rfl) ?_ _
            refine NoPanic.normal ?_
            clear hHeld
            go_wp2_with fail
            go_meet
            exact ⟨_, _, _, rfl, PZ⟩
        case rest =>
          obtain ⟨b, a1, c1, rfl, hp⟩ := hcut
          obtain ⟨w4, rfl⟩ : ∃ W, W = wc := ⟨_, rfl⟩
          have P4 := hp
          clear hp n0 n1 r0 r1 fr
          have BB := hid P4.out.bel
          obtain ⟨g1, rfl⟩ : ∃ g, a1 = some ⟨g, 0, none⟩ := by
            rcases (show w4.ownsRow _ _ _ _ _ _ from P4.out.own).2 with ⟨h1, h0⟩ | ⟨g, cap, cur, h1, -⟩
            · simp only [Value.slice.injEq] at h1
              omega
            · simp only [Value.slice.injEq] at h1
              exact ⟨g, h1.1⟩
          have hk0i : (0 : Int) ≤ (k : Int) := by omega
          have hkmi : (k : Int) < (m : Int) := by omega
          obtain ⟨m0, m1⟩ := box_two P4.out.box
          obtain ⟨_, _, e1, hg1, x0, x1, x2, x3⟩ := QAt.get (OwnS.at qf_len P4.out.own) k hkm
          cases e1
          simp only [Nat.zero_add] at x0 x1 x2 x3
          have hbl := P4.out.lt
          go_upto_region 6 with fail
          have P5 := hid (P4.out.below (by go_grown : Below w4.heap.size w4 (w4.alloc (.cells #[.int .i64 (pp l k).1, .int .i64 (pp l k).2.1, .int .i64 (pp l k).2.2.1, .int .i64 (pp l k).2.2.2] 40))))
          have T5 := hid (heap_alloc_new w4 (.cells #[.int .i64 (pp l k).1, .int .i64 (pp l k).2.1, .int .i64 (pp l k).2.2.1, .int .i64 (pp l k).2.2.2] 40))
          have hz5 : w4.heap.size < (w4.alloc (.cells #[.int .i64 (pp l k).1, .int .i64 (pp l k).2.1, .int .i64 (pp l k).2.2.1, .int .i64 (pp l k).2.2.2] 40)).heap.size := by simp
          have P6 := hid (P5.out.flip hkm)
          generalize w4.alloc (.cells #[.int .i64 (pp l k).1, .int .i64 (pp l k).2.1, .int .i64 (pp l k).2.2.1, .int .i64 (pp l k).2.2.2] 40) = w5 at *
          clear m0 m1 x0 x1 x2 x3 P4
          obtain ⟨m0, m1⟩ := box_two P5.out.box
          obtain ⟨x0, x1, x2, x3⟩ := box_four T5.out
          obtain ⟨_, _, e1, hg5, u0, u1, u2, u3⟩ := QAt.get (OwnS.at qf_len P5.out.own) k hkm
          cases e1
          simp only [Nat.zero_add] at u0 u1 u2 u3
          have hf5 := fun j => OwnS.frozen (j := j) P5.out.own
          have hbl5 := P5.out.lt
          go_upto_region 7 with fail
          generalize (((w5.setCell ⟨g1, k * 4, none⟩ (.int .i64 (pp l k).1)).setCell ⟨g1, k * 4 + 1, none⟩ (.int .i64 (pp l k).2.2.1)).setCell ⟨g1, k * 4 + 2, none⟩ (.int .i64 (pp l k).2.1)).setCell ⟨g1, k * 4 + 3, none⟩ (.int .i64 (pp l k).2.2.2) = w6 at *
          clear m0 m1 x0 x1 x2 x3 u0 u1 u2 u3 hf5 hbl5 P5 T5 hz5 hg5 hg1 hbl
          go_wp2_with fail
          refine (s_l1Own _ _ _ fs _ (H'.out.below P6.out.bel) (by omega)).mono ?_
          rintro e w7 ⟨a7, c7, rfl, ho7, hb7⟩
          have P7 := hid (P6.out.below hb7)
          have hsz6 := P6.out.lt
          obtain ⟨g7, rfl, hg70, hg71⟩ := own_some ho7 (by omega)
          have hc7 := ho7.cell (k := k) hkm
          have hf7 := fun j => ho7.frozen (k := j)
          have hw7 := IntWalk.i64_in (-(fs[k]?.getD 0)) (by omega)
          have O7 := hid (ho7.set (k := k) (-(fs[k]?.getD 0))).1
          have hlo6 := P6.out.lo
          have hg1w : g1 < w6.heap.size := (OwnS.lt P6.out.own g1 rfl).2
          have P8 := hid (P7.out.far (g := g7) (j := k) (x := .int .i64 (-(fs[k]?.getD 0))) (by omega) (by omega) (fun q e => by have h2 : g1 = q := Option.some.inj e; omega))
          clear ho7 hb7
          go_upto_region 9 with fail
          generalize w7.setCell ⟨g7, k, none⟩ (.int .i64 (-(fs[k]?.getD 0))) = w8 at *
          clear hc7 hf7 hw7
          obtain ⟨m0, m1⟩ := box_two P8.out.box
          obtain ⟨r0, r1⟩ := box_two P8.out.res
          have fr := fun j => frozen_of_row w8 (w.heap.size + 1) j _ _ P8.out.res
          have hb8 := P8.out.lt
          have hz8 : w.heap.size + 1 < w8.heap.size := by omega
          have hne8 : ¬ w.heap.size + 1 = b := by omega
          have hne9 : ¬ b = w.heap.size + 1 := by omega
          have hRl : (l.set k (flipQ (pp l k))).length = m := by simpa using HLL.out
          have hSl : (fs.set k (-(fs[k]?.getD 0))).length = m := by simpa using H'.out.1
          have HRl := hid hRl
          have HSl := hid hSl
          clear hRl hSl
          go_wp2
          refine bodyPost_ret (v := .tuple #[.agg #[.int .i64 N, .slice (some ⟨g1, 0, none⟩) m c1], .slice (some ⟨g7, 0, none⟩) m c7, .bool true]) (by simp [results, Try.results23, go_sem, *]) rfl ⟨some ⟨g1, 0, none⟩, c1, some ⟨g7, 0, none⟩, c7, by rw [HRl.out, HSl.out], ?_, ?_, ?_, (P8.out.bel.setCell (Nat.le_succ _) _).setCell (Nat.le_succ _) _⟩
          · rw [HRl.out]
            exact (OwnS.far (OwnS.far P8.out.own (by show w.heap.size + 1 < _; omega)) (by show w.heap.size + 1 < _; omega)).mono (by omega)
          · rw [HSl.out]
            exact (OwnI.far (OwnI.far O7.out (by show w.heap.size + 1 < _; omega)) (by show w.heap.size + 1 < _; omega)).mono (by omega)
          · exact .inr (fun e => by have h2 : g1 = g7 := Option.some.inj e; omega)

set_option maxRecDepth 100000 in
set_option maxHeartbeats 8000000 in
theorem i_ReversedPipe (N q : Int) (a p : Option Addr) (n c m d : Nat) (l : List Pip) (fs : List Int) (w : World) (h : QAt w a n l) (h' : IntsAt w p m fs) (hn : n ≤ 1048576) (hm : m ≤ 1048576) (X : Int) (R : List Pip) (S : List Int) (b : Bool) (hR : revR N l fs q = (X, R, S, b)) :
    Calls Try.prog 22 #[.agg #[.int .i64 N, .slice a n c], .slice p m d, .int .i64 q] w fun e w' => ∃ a1 c1 a2 c2, e = .returned (.tuple #[.agg #[.int .i64 X, .slice a1 R.length c1], .slice a2 S.length c2, .bool b]) ∧ OwnQ w' w.heap.size (.slice a1 R.length c1) R ∧ OwnI w' w.heap.size (.slice a2 S.length c2) S ∧ (Value.ownBlock (.slice a1 R.length c1) = none ∨ Value.ownBlock (.slice a1 R.length c1) ≠ Value.ownBlock (.slice a2 S.length c2)) ∧ Below w.heap.size w w' := by
  have hl := h.1
  have H := hid h
  have H' := hid h'
  clear h h'
  have B0 := hid (by go_grown : Below w.heap.size w ((w.alloc (.cells #[.int .i64 N, .slice a n c] 26)).alloc (.cells #[.int .i64 0, .slice none 0 0] 26)))
  have TA := hid (mid_new w (.cells #[.int .i64 N, .slice a n c] 26) (.cells #[.int .i64 0, .slice none 0 0] 26) w.heap.size rfl)
  have TR := hid (last_new (w.alloc (.cells #[.int .i64 N, .slice a n c] 26)) (.cells #[.int .i64 0, .slice none 0 0] 26) (w.heap.size + 1) (by simp))
  have hz0 : w.heap.size + 1 < ((w.alloc (.cells #[.int .i64 N, .slice a n c] 26)).alloc (.cells #[.int .i64 0, .slice none 0 0] 26)).heap.size := by simp
  go_enter Try.func22, Try.ntmps22
  go_upto_region 1 with fail
  generalize (w.alloc (.cells #[.int .i64 N, .slice a n c] 26)).alloc (.cells #[.int .i64 0, .slice none 0 0] 26) = w0 at *
  obtain ⟨n0, n1⟩ := box_two TA.out
  have hz00 : w.heap.size < w0.heap.size := by omega
  go_wp2_with fail
  refine (i_isFlowing N _ _ _ _ _ _ l fs _ (H.out.below (bstep B0.out (by go_grown))) (H'.out.below (bstep B0.out (by go_grown))) (by omega) (by omega)).mono ?_
  rintro e w1 ⟨rfl, hb1⟩
  have B1 := hid (bstep B0.out hb1)
  have TA1 := hid ((hb1.block _ hz00).trans TA.out)
  have TR1 := hid ((hb1.block _ hz0).trans TR.out)
  have hz1 : w.heap.size + 1 < w1.heap.size := by have := hb1.size; omega
  have hz11 : w.heap.size < w1.heap.size := by omega
  clear hb1 n0 n1 TA TR hz0 hz00
  obtain ⟨n0, n1⟩ := box_two TA1.out
  obtain ⟨r0, r1⟩ := box_two TR1.out
  have fr := fun j => frozen_of_row w1 (w.heap.size + 1) j _ _ TR1.out
  cases hgd : (goodNet N l && goodFl n fs)
  · rw [revR_no (by cases h1 : goodNet N l; exact .inl rfl; rw [h1, Bool.true_and] at hgd; exact .inr (.inl (by rw [hl]; exact hgd)))] at hR
    cases hR
    clear hgd hl
    go_wp2
    refine bodyPost_ret (v := .tuple #[.agg #[.int .i64 0, .slice none 0 0], (.slice none 0 0), .bool false]) (by simp [results, Try.results22, go_sem, *]) rfl ⟨none, 0, _, _, rfl, OwnS.nil _ _, ?_, .inl rfl, ?_⟩
    · exact OwnI.nil _ _
    · exact (B1.out.setCell (Nat.le_succ _) _).setCell (Nat.le_succ _) _
  · obtain ⟨hg1, hf1⟩ := (Bool.and_eq_true _ _).mp hgd
    have HG := hid hg1
    have HFD := hid hf1
    go_wp2_with fail
    refine (i_pipeIndex N q _ _ _ l _ (H.out.below B1.out) (by omega)).mono ?_
    rintro e w2 ⟨rfl, hb2⟩
    have B2 := hid (bstep B1.out hb2)
    have TA2 := hid ((hb2.block _ hz11).trans TA1.out)
    have TR2 := hid ((hb2.block _ hz1).trans TR1.out)
    have hz2 : w.heap.size + 1 < w2.heap.size := by have := hb2.size; omega
    have hz22 : w.heap.size < w2.heap.size := by omega
    clear hb2 n0 n1 r0 r1 fr TA1 TR1 hz1 hz11 hgd
    obtain ⟨n0, n1⟩ := box_two TA2.out
    obtain ⟨r0, r1⟩ := box_two TR2.out
    have fr := fun j => frozen_of_row w2 (w.heap.size + 1) j _ _ TR2.out
    rcases findQ_cases l q with h3 | ⟨k, hk, h3⟩
    · rw [revR_no (.inr (.inr h3))] at hR
      cases hR
      rw [h3]
      clear hl h3 hg1 hf1
      go_wp2
      refine bodyPost_ret (v := .tuple #[.agg #[.int .i64 0, .slice none 0 0], (.slice none 0 0), .bool false]) (by simp [results, Try.results22, go_sem, *]) rfl ⟨none, 0, _, _, rfl, OwnS.nil _ _, ?_, .inl rfl, ?_⟩
      · exact OwnI.nil _ _
      · exact (B2.out.setCell (Nat.le_succ _) _).setCell (Nat.le_succ _) _
    · have e0 : revR N l fs q = (N, l.set k (flipQ (pp l k)), fs.set k (-(fs[k]?.getD 0)), true) := by
        unfold revR
        rw [if_pos ⟨hg1, by rw [hl]; exact hf1, by omega⟩, h3]
        rfl
      rw [e0] at hR
      cases hR
      rw [h3]
      have hmn : m = n := by have := (goodFl_iff.1 hf1).1; have := H'.out.1; omega
      subst hmn
      have hkm : k < m := by omega
      have hk0 : ¬ ((k : Int) < 0) := by omega
      have hq8 := (goodFl_iff.1 hf1).2 _ (getD_mem' (k := k) (by have := H'.out.1; omega))
      have HLL := hid hl
      have H3 := hid h3
      clear h3 e0 hl hg1 hf1 hk
      go_wp2_with fail
      refine (i_pipeIndex N q _ _ _ l _ (H.out.below B2.out) (by omega)).mono ?_
      rintro e w3 ⟨rfl, hb3⟩
      rw [H3.out]
      have B3 := hid (bstep B2.out hb3)
      have TA3 := hid ((hb3.block _ hz22).trans TA2.out)
      have TR3 := hid ((hb3.block _ hz2).trans TR2.out)
      have hz3 : w.heap.size + 1 < w3.heap.size := by have := hb3.size; omega
      have hz33 : w.heap.size < w3.heap.size := by omega
      clear hb3 n0 n1 r0 r1 fr TA2 TR2 hz2 hz22
      obtain ⟨n0, n1⟩ := box_two TA3.out
      go_upto_region 4 with fail
      go_cut [10, 11] (fun s10 s11 wx => ∃ (b : Nat) (a' : Option Addr) (c' : Nat) (a7 : Option Addr) (c7 : Nat), s10 = .pointer (some ⟨b, 0, none⟩) ∧ s11 = .slice a7 m c7 ∧ Hid (PB w wx b (.int .i64 N) (.slice a' m c') N a m c (.slice a' m c') l ∧ OwnI wx (w.heap.size + 2) (.slice a7 m c7) fs ∧ ∀ k, Value.ownBlock (.slice a7 m c7) = some k → k ≠ b ∧ ∀ j, Value.ownBlock (.slice a' m c') = some j → j ≠ k))
      case first =>
        refine wp_region_noPanic ?_
        refine wp_region_held_drew (S := (fun w' => w'.cell? ⟨w.heap.size, 0, none⟩ = some (.int .i64 N) ∧ w'.cell? ⟨w.heap.size, 1, none⟩ = some (.slice a m c))) (by kernel_rfl) (by exact ⟨n0, n1⟩) (fun hHeld => ?_)
        refine wpAnyH_take' (i := 0) (v := ?_) rfl (by kernel_rfl) (by kernel_rfl) (by kernel_rfl) (fun _ _ _ h => h) (Or.inl ⟨by rfl, ?_⟩) (by assumption) ?_
        rotate_left
        · (intro w' hSw; (try dsimp only at hSw); go_simp; all_goals with_reducible rfl)
        try simp only [Act.put, List.setIfInBounds_toArray, List.set_cons_zero, List.set_cons_succ]
        refine wpAnyH_take' (i := 1) (v := ?_) rfl (by kernel_rfl) (by kernel_rfl) (by kernel_rfl) (fun _ _ _ h => h) (Or.inl ⟨by rfl, ?_⟩) (by assumption) ?_
        rotate_left
        · (intro w' hSw; (try dsimp only at hSw); go_simp; all_goals with_reducible rfl)
        try simp only [Act.put, List.setIfInBounds_toArray, List.set_cons_zero, List.set_cons_succ]
        refine wpAnyH_take' (i := 3) (v := ?_) rfl (by kernel_rfl) (by kernel_rfl) (by kernel_rfl) (fun _ _ _ h => h) (Or.inl ⟨by rfl, ?_⟩) (by assumption) ?_
        rotate_left
        · (intro w' hSw; (try dsimp only at hSw); go_simp; all_goals with_reducible rfl)
        try simp only [Act.put, List.setIfInBounds_toArray, List.set_cons_zero, List.set_cons_succ]
        refine wpAnyH_take' (i := 4) (v := ?_) rfl (by kernel_rfl) (by kernel_rfl) (by kernel_rfl) (fun _ _ _ h => h) (Or.inl ⟨by rfl, ?_⟩) (by assumption) ?_
        rotate_left
        · (intro w' hSw; (try dsimp only at hSw); go_simp; all_goals with_reducible rfl)
        try simp only [Act.put, List.setIfInBounds_toArray, List.set_cons_zero, List.set_cons_succ]
        refine wpAnyH_take' (i := 7) (v := ?_) rfl (by kernel_rfl) (by kernel_rfl) (by kernel_rfl) (fun _ _ _ h => h) (Or.inl ⟨by rfl, ?_⟩) (by assumption) ?_
        rotate_left
        · (intro w' hSw; (try dsimp only at hSw); go_simp; all_goals with_reducible rfl)
        try simp only [Act.put, List.setIfInBounds_toArray, List.set_cons_zero, List.set_cons_succ]
        refine wpAnyH_ready (rs := [2, 9]) (by kernel_rfl) (by simp) ?_
        refine allReadyH_cons' rfl (fun Kn hKn => ?_) (allReadyH_cons' rfl (fun Kn hKn => ?_) AllReadyH.nil)
        · go_simp
          have OA := hid (OwnS.drew' (OwnS.lit0' (w := w3) rfl))
          have BA := hid (by go_grown : Below w3.heap.size w3 (w3.alloc (.cells #[] 40)).drew)
          have hz4 : w3.heap.size < (w3.alloc (.cells #[] 40)).drew.heap.size := by simp
          generalize (w3.alloc (.cells #[] 40)).drew = w4 at *
          refine hKn.out _ _ (box_two ((BA.out.block _ hz33).trans TA3.out)) (fun hHeldN => ?_)
          clear hKn Kn hHeld
          have hHeld := hHeldN
          clear hHeldN
          try simp only [Act.put, List.setIfInBounds_toArray, List.set_cons_zero, List.set_cons_succ]
          refine wpAnyH_ready (rs := [5, 9]) (by kernel_rfl) (by simp) ?_
          refine allReadyH_cons' rfl (fun Kn hKn => ?_) (allReadyH_cons' rfl (fun Kn hKn => ?_) AllReadyH.nil)
          · refine step_append_q (by rfl) _ _ (by rfl) w3.heap.size _ [] (by rfl) OA.out _ m _ l (by rfl) (H.out.below (bstep B3.out BA.out)) m (by simp) (by omega) (by have := BA.out.size; omega) ?_
            intro a5 c5 w5 hown hgrow hblk
            rw [List.nil_append] at hown
            have BY := hid (BA.out.grown hgrow BA.out.size (fun q hq => by have := OwnS.lt OA.out q hq; omega))
            refine hKn.out _ _ (box_two ((BY.out.block _ hz33).trans TA3.out)) (fun hHeldN => ?_)
            clear hKn Kn hHeld
            have hHeld := hHeldN
            clear hHeldN
            try simp only [Act.put, List.setIfInBounds_toArray, List.set_cons_zero, List.set_cons_succ]
            refine wpAnyH_take' (i := 6) (v := ?_) rfl (by kernel_rfl) (by kernel_rfl) (by kernel_rfl) (fun _ _ _ h => h) (Or.inl ⟨by rfl, ?_⟩) (by assumption) ?_
            rotate_left
            · (intro w' hSw; (try dsimp only at hSw); go_simp; all_goals with_reducible rfl)
            try simp only [Act.put, List.setIfInBounds_toArray, List.set_cons_zero, List.set_cons_succ]
            refine wpAnyH_ready (rs := [8, 9]) (by kernel_rfl) (by simp) ?_
            refine allReadyH_cons' rfl (fun Kn hKn => ?_) (allReadyH_cons' rfl (fun Kn hKn => ?_) AllReadyH.nil)
            · go_simp
              go_at_call 87
              refine (i_copyInts _ _ _ fs _ (H'.out.below (bstep B3.out BY.out)) (by omega)).mono ?_
              rintro e w6 ⟨a7, c7, rfl, ho7, hb7⟩
              have BZ := hid (bstep BY.out hb7)
              have P7 := hid (show PB w (w6.alloc (.cells #[.int .i64 0, .slice none 0 0] 26)) w6.heap.size (.int .i64 0) (.slice none 0 0) N a m c (.slice a5 m c5) l from
                ⟨bstep B3.out (bstep BZ.out (by go_grown)), (Below.heap_alloc _ _ _ (by have := BZ.out.size; omega)).trans ((BZ.out.block _ hz33).trans TA3.out), (Below.heap_alloc _ _ _ (by have := BZ.out.size; omega)).trans ((BZ.out.block _ hz3).trans TR3.out), heap_alloc_new _ _, OwnS.alloc (OwnS.mono (OwnS.below hown hb7) (by omega)) _, fun k e => by have := OwnS.lt hown k e; have := hb7.size; omega, by have := BZ.out.size; omega⟩)
              have O7 := hid (show OwnI (w6.alloc (.cells #[.int .i64 0, .slice none 0 0] 26)) (w.heap.size + 2) (.slice a7 m c7) fs ∧ (∀ k, Value.ownBlock (.slice a7 m c7) = some k → w5.heap.size ≤ k ∧ k < w6.heap.size) from ⟨(ho7.mono (by have := BY.out.size; omega)).alloc _, ho7.lt⟩)
              have HOW := hid (fun k e => (OwnS.lt hown k e).2)
              clear ho7 hb7
              refine hKn.out _ _ (box_two ((BZ.out.block _ hz33).trans TA3.out)) (fun hHeldN => ?_)
              clear hKn Kn hHeld
              have hHeld := hHeldN
              clear hHeldN
              try simp only [Act.put, List.setIfInBounds_toArray, List.set_cons_zero, List.set_cons_succ]
              clear hown hgrow hblk
              refine wpAnyH_ready (rs := [9]) (by kernel_rfl) (by simp) ?_
              refine allReadyH_cons' rfl (fun Kn hKn => ?_) AllReadyH.nil
              go_simp
              refine hKn.out _ _ (box_two P7.out.arg) (fun hHeldN => ?_)
              clear hKn Kn hHeld
              have hHeld := hHeldN
              clear hHeldN
              try simp only [Act.put, List.setIfInBounds_toArray, List.set_cons_zero, List.set_cons_succ]
              generalize hw7 : w6.alloc (.cells #[.int .i64 0, .slice none 0 0] 26) = w7 at *
              obtain ⟨y0, y1⟩ := box_two P7.out.box
              have fy := fun j => frozen_of_row w7 _ j _ _ P7.out.box
              have hly := P7.out.lt
              have PZ := hid (P7.out.put (u' := .int .i64 N) (v' := .slice a5 m c5))
              have OZ := hid (show OwnI _ (w.heap.size + 2) (.slice a7 m c7) fs from OwnI.kept (OwnI.kept O7.out.1 (grown_setCell w7 w6.heap.size 0 (.int .i64 N)) (or_ne' (fun k e => by have := (O7.out.2 k e).2; omega))) (grown_setCell _ w6.heap.size 1 (.slice a5 m c5)) (or_ne' (fun k e => by have := (O7.out.2 k e).2; omega)))
              clear hw7
              refine wpAnyH_ready (rs := [10]) (by kernel_rfl) (by simp) ?_
              refine allReadyH_cons' rfl (fun Kn hKn => ?_) AllReadyH.nil
              go_simp
              refine hKn.out _ _ (box_two PZ.out.arg) (fun hHeldN => ?_)
              clear hKn Kn hHeld
              have hHeld := hHeldN
              clear hHeldN
              try simp only [Act.put, List.setIfInBounds_toArray, List.set_cons_zero, List.set_cons_succ]
              refine wpAnyH_take' (i := 11) (v := ?_) rfl (by kernel_rfl) (by kernel_rfl) (by kernel_rfl) (fun _ _ _ h => h) (Or.inl ⟨by rfl, ?_⟩) (by assumption) ?_
              rotate_left
              · (intro w' hSw; (try dsimp only at hSw); go_simp; all_goals with_reducible rfl)
              try simp only [Act.put, List.setIfInBounds_toArray, List.set_cons_zero, List.set_cons_succ]
              refine wpAnyH_done (by kernel_rfl) ?_ _
              refine NoPanic.normal ?_
              clear hHeld
              go_wp2_with fail
              go_meet
              exact ⟨_, _, _, _, _, rfl, rfl, hid ⟨PZ.out, OZ.out, fun k e => ⟨by have := (O7.out.2 k e).2; omega, fun j e2 => by have := HOW.out j e2; have := (O7.out.2 k e).1; omega⟩⟩⟩
            · go_simp
              have P5 := hid (show PB w (w5.alloc (.cells #[.int .i64 0, .slice none 0 0] 26)) w5.heap.size (.int .i64 0) (.slice none 0 0) N a m c (.slice a5 m c5) l from
                ⟨bstep B3.out (bstep BY.out (by go_grown)), (Below.heap_alloc _ _ _ (by have := BY.out.size; omega)).trans ((BY.out.block _ hz33).trans TA3.out), (Below.heap_alloc _ _ _ (by have := BY.out.size; omega)).trans ((BY.out.block _ hz3).trans TR3.out), heap_alloc_new _ _, OwnS.alloc (OwnS.mono hown (by omega)) _, fun k e => by have := OwnS.lt hown k e; omega, by have := BY.out.size; omega⟩)
              refine hKn.out _ _ (box_two P5.out.arg) (fun hHeldN => ?_)
              clear hKn Kn hHeld
              have hHeld := hHeldN
              clear hHeldN
              try simp only [Act.put, List.setIfInBounds_toArray, List.set_cons_zero, List.set_cons_succ]
              clear hown hgrow hblk
              generalize w5.alloc (.cells #[.int .i64 0, .slice none 0 0] 26) = w6 at *
              refine wpAnyH_ready (rs := [8]) (by kernel_rfl) (by simp) ?_
              refine allReadyH_cons' rfl (fun Kn hKn => ?_) AllReadyH.nil
              go_simp
              go_at_call 87
              refine (i_copyInts _ _ _ fs _ (H'.out.below P5.out.bel) (by omega)).mono ?_
              rintro e w7 ⟨a7, c7, rfl, ho7, hb7⟩
              have P7 := hid (P5.out.below hb7)
              have O7 := hid (show OwnI w7 (w.heap.size + 2) (.slice a7 m c7) fs ∧ (∀ k, Value.ownBlock (.slice a7 m c7) = some k → w6.heap.size ≤ k ∧ k < w7.heap.size) from ⟨ho7.mono (by have := P5.out.lt; have := P5.out.lo; omega), ho7.lt⟩)
              have hltP := P5.out.lt
              have HOW := hid (fun k e => (OwnS.lt P5.out.own k e).2)
              clear ho7 hb7
              refine hKn.out _ _ (box_two P7.out.arg) (fun hHeldN => ?_)
              clear hKn Kn hHeld
              have hHeld := hHeldN
              clear hHeldN
              try simp only [Act.put, List.setIfInBounds_toArray, List.set_cons_zero, List.set_cons_succ]
              obtain ⟨y0, y1⟩ := box_two P7.out.box
              have fy := fun j => frozen_of_row w7 _ j _ _ P7.out.box
              have hly := P7.out.lt
              have PZ := hid (P7.out.put (u' := .int .i64 N) (v' := .slice a5 m c5))
              have OZ := hid (show OwnI _ (w.heap.size + 2) (.slice a7 m c7) fs from OwnI.kept (OwnI.kept O7.out.1 (grown_setCell w7 _ 0 (.int .i64 N)) (or_ne' (fun k e => by have := (O7.out.2 k e).1; exact (by omega : k ≠ w5.heap.size)))) (grown_setCell _ _ 1 (.slice a5 m c5)) (or_ne' (fun k e => by have := (O7.out.2 k e).1; exact (by omega : k ≠ w5.heap.size))))
              refine wpAnyH_ready (rs := [10]) (by kernel_rfl) (by simp) ?_
              refine allReadyH_cons' rfl (fun Kn hKn => ?_) AllReadyH.nil
              go_simp
              refine hKn.out _ _ (box_two PZ.out.arg) (fun hHeldN => ?_)
              clear hKn Kn hHeld
              have hHeld := hHeldN
              clear hHeldN
              try simp only [Act.put, List.setIfInBounds_toArray, List.set_cons_zero, List.set_cons_succ]
              refine wpAnyH_take' (i := 11) (v := ?_) rfl (by kernel_rfl) (by kernel_rfl) (by kernel_rfl) (fun _ _ _ h => h) (Or.inl ⟨by rfl, ?_⟩) (by assumption) ?_
              rotate_left
              · (intro w' hSw; (try dsimp only at hSw); go_simp; all_goals with_reducible rfl)
              try simp only [Act.put, List.setIfInBounds_toArray, List.set_cons_zero, List.set_cons_succ]
              refine wpAnyH_done (by kernel_rfl) ?_ _
              refine NoPanic.normal ?_
              clear hHeld
              go_wp2_with fail
              go_meet
              exact ⟨_, _, _, _, _, rfl, rfl, hid ⟨PZ.out, OZ.out, fun k e => ⟨by have := (O7.out.2 k e).1; omega, fun j e2 => by have := HOW.out j e2; have := (O7.out.2 k e).1; omega⟩⟩⟩
          · go_simp
            have OC := hid (OwnS.alloc OA.out (.cells #[.int .i64 0, .slice none 0 0] 26))
            have BC := hid (bstep BA.out (by go_grown : Below w4.heap.size w4 (w4.alloc (.cells #[.int .i64 0, .slice none 0 0] 26))))
            have TB := hid (heap_alloc_new w4 (.cells #[.int .i64 0, .slice none 0 0] 26))
            have hz6 : w4.heap.size < (w4.alloc (.cells #[.int .i64 0, .slice none 0 0] 26)).heap.size := by simp
            generalize w4.alloc (.cells #[.int .i64 0, .slice none 0 0] 26) = w6 at *
            refine hKn.out _ _ (box_two ((BC.out.block _ hz33).trans TA3.out)) (fun hHeldN => ?_)
            clear hKn Kn hHeld
            have hHeld := hHeldN
            clear hHeldN
            try simp only [Act.put, List.setIfInBounds_toArray, List.set_cons_zero, List.set_cons_succ]
            refine wpAnyH_ready (rs := [5]) (by kernel_rfl) (by simp) ?_
            refine allReadyH_cons' rfl (fun Kn hKn => ?_) AllReadyH.nil
            refine step_append_q (by rfl) _ _ (by rfl) w3.heap.size _ [] (by rfl) OC.out _ m _ l (by rfl) (H.out.below (bstep B3.out BC.out)) m (by simp) (by omega) (by have := BC.out.size; omega) ?_
            intro a5 c5 w5 hown hgrow hblk
            rw [List.nil_append] at hown
            have BY := hid (BC.out.grown hgrow BC.out.size (fun q hq => by have := OwnS.lt OC.out q hq; omega))
            have P5 := hid (show PB w w5 w4.heap.size (.int .i64 0) (.slice none 0 0) N a m c (.slice a5 m c5) l from
              ⟨bstep B3.out BY.out, (BY.out.block _ hz33).trans TA3.out, (BY.out.block _ hz3).trans TR3.out, (hgrow.block _ hz6 (fun e => by have h2 : w4.heap.size = w3.heap.size := Option.some.inj e; omega)).trans TB.out, OwnS.mono hown (by omega), fun k e => by rcases hblk with h | h; (rw [h] at e; have h2 : w3.heap.size = k := Option.some.inj e; omega); (rw [h] at e; have h2 : w6.heap.size = k := Option.some.inj e; omega), by omega⟩)
            refine hKn.out _ _ (box_two P5.out.arg) (fun hHeldN => ?_)
            clear hKn Kn hHeld
            have hHeld := hHeldN
            clear hHeldN
            try simp only [Act.put, List.setIfInBounds_toArray, List.set_cons_zero, List.set_cons_succ]
            clear hown hgrow hblk
            refine wpAnyH_take' (i := 6) (v := ?_) rfl (by kernel_rfl) (by kernel_rfl) (by kernel_rfl) (fun _ _ _ h => h) (Or.inl ⟨by rfl, ?_⟩) (by assumption) ?_
            rotate_left
            · (intro w' hSw; (try dsimp only at hSw); go_simp; all_goals with_reducible rfl)
            try simp only [Act.put, List.setIfInBounds_toArray, List.set_cons_zero, List.set_cons_succ]
            refine wpAnyH_ready (rs := [8]) (by kernel_rfl) (by simp) ?_
            refine allReadyH_cons' rfl (fun Kn hKn => ?_) AllReadyH.nil
            go_simp
            go_at_call 87
            refine (i_copyInts _ _ _ fs _ (H'.out.below P5.out.bel) (by omega)).mono ?_
            rintro e w7 ⟨a7, c7, rfl, ho7, hb7⟩
            have P7 := hid (P5.out.below hb7)
            have O7 := hid (show OwnI w7 (w.heap.size + 2) (.slice a7 m c7) fs ∧ (∀ k, Value.ownBlock (.slice a7 m c7) = some k → w5.heap.size ≤ k ∧ k < w7.heap.size) from ⟨ho7.mono (by have := P5.out.lt; have := P5.out.lo; omega), ho7.lt⟩)
            have hltP := P5.out.lt
            have HOW := hid (fun k e => (OwnS.lt P5.out.own k e).2)
            clear ho7 hb7
            refine hKn.out _ _ (box_two P7.out.arg) (fun hHeldN => ?_)
            clear hKn Kn hHeld
            have hHeld := hHeldN
            clear hHeldN
            try simp only [Act.put, List.setIfInBounds_toArray, List.set_cons_zero, List.set_cons_succ]
            obtain ⟨y0, y1⟩ := box_two P7.out.box
            have fy := fun j => frozen_of_row w7 _ j _ _ P7.out.box
            have hly := P7.out.lt
            have PZ := hid (P7.out.put (u' := .int .i64 N) (v' := .slice a5 m c5))
            have OZ := hid (show OwnI _ (w.heap.size + 2) (.slice a7 m c7) fs from OwnI.kept (OwnI.kept O7.out.1 (grown_setCell w7 _ 0 (.int .i64 N)) (or_ne' (fun k e => by have := (O7.out.2 k e).1; exact (by omega : k ≠ w4.heap.size)))) (grown_setCell _ _ 1 (.slice a5 m c5)) (or_ne' (fun k e => by have := (O7.out.2 k e).1; exact (by omega : k ≠ w4.heap.size))))
            refine wpAnyH_ready (rs := [10]) (by kernel_rfl) (by simp) ?_
            refine allReadyH_cons' rfl (fun Kn hKn => ?_) AllReadyH.nil
            go_simp
            refine hKn.out _ _ (box_two PZ.out.arg) (fun hHeldN => ?_)
            clear hKn Kn hHeld
            have hHeld := hHeldN
            clear hHeldN
            try simp only [Act.put, List.setIfInBounds_toArray, List.set_cons_zero, List.set_cons_succ]
            refine wpAnyH_take' (i := 11) (v := ?_) rfl (by kernel_rfl) (by kernel_rfl) (by kernel_rfl) (fun _ _ _ h => h) (Or.inl ⟨by rfl, ?_⟩) (by assumption) ?_
            rotate_left
            · (intro w' hSw; (try dsimp only at hSw); go_simp; all_goals with_reducible rfl)
            try simp only [Act.put, List.setIfInBounds_toArray, List.set_cons_zero, List.set_cons_succ]
            refine wpAnyH_done (by kernel_rfl) ?_ _
            refine NoPanic.normal ?_
            clear hHeld
            go_wp2_with fail
            go_meet
            exact ⟨_, _, _, _, _, rfl, rfl, hid ⟨PZ.out, OZ.out, fun k e => ⟨by have := (O7.out.2 k e).1; omega, fun j e2 => by have := HOW.out j e2; have := (O7.out.2 k e).1; omega⟩⟩⟩
        · go_simp
          have TB := hid (show (w3.alloc (.cells #[.int .i64 0, .slice none 0 0] 26)).drew.heap[w3.heap.size]? = some (.cells #[.int .i64 0, .slice none 0 0] 26 (0, 0)) from heap_alloc_new w3 _)
          have BA := hid (by go_grown : Below w3.heap.size w3 (w3.alloc (.cells #[.int .i64 0, .slice none 0 0] 26)).drew)
          have hz4 : w3.heap.size < (w3.alloc (.cells #[.int .i64 0, .slice none 0 0] 26)).drew.heap.size := by simp
          generalize (w3.alloc (.cells #[.int .i64 0, .slice none 0 0] 26)).drew = w4 at *
          refine hKn.out _ _ (box_two ((BA.out.block _ hz33).trans TA3.out)) (fun hHeldN => ?_)
          clear hKn Kn hHeld
          have hHeld := hHeldN
          clear hHeldN
          try simp only [Act.put, List.setIfInBounds_toArray, List.set_cons_zero, List.set_cons_succ]
          refine wpAnyH_ready (rs := [2]) (by kernel_rfl) (by simp) ?_
          refine allReadyH_cons' rfl (fun Kn hKn => ?_) AllReadyH.nil
          go_simp
          have OC := hid (OwnS.lit0' (w := w4) rfl)
          have BC := hid (bstep BA.out (by go_grown : Below w4.heap.size w4 (w4.alloc (.cells #[] 40))))
          have TC := hid ((Below.heap_alloc w4 (.cells #[] 40) _ (by omega)).trans TB.out)
          have hz6 : w3.heap.size < (w4.alloc (.cells #[] 40)).heap.size := by simp; omega
          have hz7 : w4.heap.size < (w4.alloc (.cells #[] 40)).heap.size := by simp
          generalize w4.alloc (.cells #[] 40) = w6 at *
          refine hKn.out _ _ (box_two ((BC.out.block _ hz33).trans TA3.out)) (fun hHeldN => ?_)
          clear hKn Kn hHeld
          have hHeld := hHeldN
          clear hHeldN
          try simp only [Act.put, List.setIfInBounds_toArray, List.set_cons_zero, List.set_cons_succ]
          refine wpAnyH_ready (rs := [5]) (by kernel_rfl) (by simp) ?_
          refine allReadyH_cons' rfl (fun Kn hKn => ?_) AllReadyH.nil
          refine step_append_q (by rfl) _ _ (by rfl) w4.heap.size _ [] (by rfl) OC.out _ m _ l (by rfl) (H.out.below (bstep B3.out BC.out)) m (by simp) (by omega) (by have := BC.out.size; omega) ?_
          intro a5 c5 w5 hown hgrow hblk
          rw [List.nil_append] at hown
          have BY := hid (BC.out.grown hgrow BC.out.size (fun q hq => by have := OwnS.lt OC.out q hq; omega))
          have P5 := hid (show PB w w5 w3.heap.size (.int .i64 0) (.slice none 0 0) N a m c (.slice a5 m c5) l from
            ⟨bstep B3.out BY.out, (BY.out.block _ hz33).trans TA3.out, (BY.out.block _ hz3).trans TR3.out, (hgrow.block _ hz6 (fun e => by have h2 : w3.heap.size = w4.heap.size := Option.some.inj e; omega)).trans TC.out, OwnS.mono hown (by omega), fun k e => by rcases hblk with h | h; (rw [h] at e; have h2 : w4.heap.size = k := Option.some.inj e; omega); (rw [h] at e; have h2 : w6.heap.size = k := Option.some.inj e; omega), by omega⟩)
          refine hKn.out _ _ (box_two P5.out.arg) (fun hHeldN => ?_)
          clear hKn Kn hHeld
          have hHeld := hHeldN
          clear hHeldN
          try simp only [Act.put, List.setIfInBounds_toArray, List.set_cons_zero, List.set_cons_succ]
          clear hown hgrow hblk
          refine wpAnyH_take' (i := 6) (v := ?_) rfl (by kernel_rfl) (by kernel_rfl) (by kernel_rfl) (fun _ _ _ h => h) (Or.inl ⟨by rfl, ?_⟩) (by assumption) ?_
          rotate_left
          · (intro w' hSw; (try dsimp only at hSw); go_simp; all_goals with_reducible rfl)
          try simp only [Act.put, List.setIfInBounds_toArray, List.set_cons_zero, List.set_cons_succ]
          refine wpAnyH_ready (rs := [8]) (by kernel_rfl) (by simp) ?_
          refine allReadyH_cons' rfl (fun Kn hKn => ?_) AllReadyH.nil
          go_simp
          go_at_call 87
          refine (i_copyInts _ _ _ fs _ (H'.out.below P5.out.bel) (by omega)).mono ?_
          rintro e w7 ⟨a7, c7, rfl, ho7, hb7⟩
          have P7 := hid (P5.out.below hb7)
          have O7 := hid (show OwnI w7 (w.heap.size + 2) (.slice a7 m c7) fs ∧ (∀ k, Value.ownBlock (.slice a7 m c7) = some k → w5.heap.size ≤ k ∧ k < w7.heap.size) from ⟨ho7.mono (by have := P5.out.lt; have := P5.out.lo; omega), ho7.lt⟩)
          have hltP := P5.out.lt
          have HOW := hid (fun k e => (OwnS.lt P5.out.own k e).2)
          clear ho7 hb7
          refine hKn.out _ _ (box_two P7.out.arg) (fun hHeldN => ?_)
          clear hKn Kn hHeld
          have hHeld := hHeldN
          clear hHeldN
          try simp only [Act.put, List.setIfInBounds_toArray, List.set_cons_zero, List.set_cons_succ]
          obtain ⟨y0, y1⟩ := box_two P7.out.box
          have fy := fun j => frozen_of_row w7 _ j _ _ P7.out.box
          have hly := P7.out.lt
          have PZ := hid (P7.out.put (u' := .int .i64 N) (v' := .slice a5 m c5))
          have OZ := hid (show OwnI _ (w.heap.size + 2) (.slice a7 m c7) fs from OwnI.kept (OwnI.kept O7.out.1 (grown_setCell w7 _ 0 (.int .i64 N)) (or_ne' (fun k e => by have := (O7.out.2 k e).1; exact (by omega : k ≠ w3.heap.size)))) (grown_setCell _ _ 1 (.slice a5 m c5)) (or_ne' (fun k e => by have := (O7.out.2 k e).1; exact (by omega : k ≠ w3.heap.size))))
          refine wpAnyH_ready (rs := [10]) (by kernel_rfl) (by simp) ?_
          refine allReadyH_cons' rfl (fun Kn hKn => ?_) AllReadyH.nil
          go_simp
          refine hKn.out _ _ (box_two PZ.out.arg) (fun hHeldN => ?_)
          clear hKn Kn hHeld
          have hHeld := hHeldN
          clear hHeldN
          try simp only [Act.put, List.setIfInBounds_toArray, List.set_cons_zero, List.set_cons_succ]
          refine wpAnyH_take' (i := 11) (v := ?_) rfl (by kernel_rfl) (by kernel_rfl) (by kernel_rfl) (fun _ _ _ h => h) (Or.inl ⟨by rfl, ?_⟩) (by assumption) ?_
          rotate_left
          · (intro w' hSw; (try dsimp only at hSw); go_simp; all_goals with_reducible rfl)
          try simp only [Act.put, List.setIfInBounds_toArray, List.set_cons_zero, List.set_cons_succ]
          refine wpAnyH_done (by kernel_rfl) ?_ _
          refine NoPanic.normal ?_
          clear hHeld
          go_wp2_with fail
          go_meet
          exact ⟨_, _, _, _, _, rfl, rfl, hid ⟨PZ.out, OZ.out, fun k e => ⟨by have := (O7.out.2 k e).1; omega, fun j e2 => by have := HOW.out j e2; have := (O7.out.2 k e).1; omega⟩⟩⟩
      case rest =>
        obtain ⟨b, a1, c1, a7, c7, rfl, rfl, hp⟩ := hcut
        obtain ⟨w4, rfl⟩ : ∃ W, W = wc := ⟨_, rfl⟩
        have P4 := hid hp.out.1
        have O4 := hid hp.out.2.1
        have A4 := hid hp.out.2.2
        clear hp n0 n1
        have BB := hid P4.out.bel
        obtain ⟨g1, rfl⟩ : ∃ g, a1 = some ⟨g, 0, none⟩ := by
          rcases (show w4.ownsRow _ _ _ _ _ _ from P4.out.own).2 with ⟨h1, h0⟩ | ⟨g, cap, cur, h1, -⟩
          · simp only [Value.slice.injEq] at h1
            omega
          · simp only [Value.slice.injEq] at h1
            exact ⟨g, h1.1⟩
        have hk0i : (0 : Int) ≤ (k : Int) := by omega
        have hkmi : (k : Int) < (m : Int) := by omega
        obtain ⟨b0, off0, e1, hb0, -, -, -, -⟩ := QAt.get H.out k hkm
        subst e1
        have KX := hid (fun (wx : World) (hb : Below w.heap.size w wx) => by
          obtain ⟨_, _, e1, -, -, x1, x2, -⟩ := QAt.get (H.out.below hb) k hkm
          cases e1
          exact (⟨x1, x2⟩ : wx.cell? ⟨b0, off0 + k * 4 + 1, none⟩ = some (.int .i64 (pp l k).2.1) ∧ wx.cell? ⟨b0, off0 + k * 4 + 2, none⟩ = some (.int .i64 (pp l k).2.2.1)))
        obtain ⟨m0, m1⟩ := box_two P4.out.box
        obtain ⟨n0, n1⟩ := box_two P4.out.arg
        obtain ⟨x1, x2⟩ := KX.out _ P4.out.bel
        obtain ⟨_, _, e1, hg1, -, u1, u2, -⟩ := QAt.get (OwnS.at qf_len P4.out.own) k hkm
        cases e1
        simp only [Nat.zero_add] at u1 u2
        have hbl := P4.out.lt
        have hf4 := fun j => OwnS.frozen (j := j) P4.out.own
        have hll : k < l.length := by have := HLL.out; omega
        go_upto_region 5 with fail
        refine wp_region_noPanic ?_
        refine wp_region_held_drew (S := (fun w' => w'.cell? ⟨b, 1, none⟩ = some (.slice (some ⟨g1, 0, none⟩) m c1) ∧ w'.cell? ⟨w.heap.size, 1, none⟩ = some (.slice (some ⟨b0, off0, none⟩) m c) ∧ w'.cell? ⟨b0, off0 + k * 4 + 1, none⟩ = some (.int .i64 (pp l k).2.1) ∧ w'.cell? ⟨b0, off0 + k * 4 + 2, none⟩ = some (.int .i64 (pp l k).2.2.1))) (by kernel_rfl) (by exact ⟨m1, n1, x1, x2⟩) (fun hHeld => ?_)
        refine wpAnyH_take' (i := 0) (v := ?_) rfl (by kernel_rfl) (by kernel_rfl) (by kernel_rfl) (fun _ _ _ h => h) (Or.inl ⟨by rfl, ?_⟩) (by assumption) ?_
        rotate_left
        · (intro w' hSw; (try dsimp only at hSw); go_simp; all_goals with_reducible rfl)
        try simp only [Act.put, List.setIfInBounds_toArray, List.set_cons_zero, List.set_cons_succ]
        refine wpAnyH_take' (i := 1) (v := ?_) rfl (by kernel_rfl) (by kernel_rfl) (by kernel_rfl) (fun _ _ _ h => h) (Or.inl ⟨by rfl, ?_⟩) (by assumption) ?_
        rotate_left
        · (intro w' hSw; (try dsimp only at hSw); go_simp; all_goals with_reducible rfl)
        try simp only [Act.put, List.setIfInBounds_toArray, List.set_cons_zero, List.set_cons_succ]
        refine wpAnyH_take' (i := 2) (v := ?_) rfl (by kernel_rfl) (by kernel_rfl) (by kernel_rfl) (fun _ _ _ h => h) (Or.inl ⟨by rfl, ?_⟩) (by assumption) ?_
        rotate_left
        · (intro w' hSw; (try dsimp only at hSw); go_simp; all_goals with_reducible rfl)
        try simp only [Act.put, List.setIfInBounds_toArray, List.set_cons_zero, List.set_cons_succ]
        refine wpAnyH_take' (i := 3) (v := ?_) rfl (by kernel_rfl) (by kernel_rfl) (by kernel_rfl) (fun _ _ _ h => h) (Or.inl ⟨by rfl, ?_⟩) (by assumption) ?_
        rotate_left
        · (intro w' hSw; (try dsimp only at hSw); go_simp; all_goals with_reducible rfl)
        try simp only [Act.put, List.setIfInBounds_toArray, List.set_cons_zero, List.set_cons_succ]
        refine wpAnyH_take' (i := 4) (v := ?_) rfl (by kernel_rfl) (by kernel_rfl) (by kernel_rfl) (fun _ _ _ h => h) (Or.inl ⟨by rfl, ?_⟩) (by assumption) ?_
        rotate_left
        · (intro w' hSw; (try dsimp only at hSw); go_simp; all_goals with_reducible rfl)
        try simp only [Act.put, List.setIfInBounds_toArray, List.set_cons_zero, List.set_cons_succ]
        refine wpAnyH_take' (i := 5) (v := ?_) rfl (by kernel_rfl) (by kernel_rfl) (by kernel_rfl) (fun _ _ _ h => h) (Or.inl ⟨by rfl, ?_⟩) (by assumption) ?_
        rotate_left
        · (intro w' hSw; (try dsimp only at hSw); go_simp; all_goals with_reducible rfl)
        try simp only [Act.put, List.setIfInBounds_toArray, List.set_cons_zero, List.set_cons_succ]
        refine wpAnyH_take' (i := 6) (v := ?_) rfl (by kernel_rfl) (by kernel_rfl) (by kernel_rfl) (fun _ _ _ h => h) (Or.inl ⟨by rfl, ?_⟩) (by assumption) ?_
        rotate_left
        · (intro w' hSw; (try dsimp only at hSw); go_simp; all_goals with_reducible rfl)
        try simp only [Act.put, List.setIfInBounds_toArray, List.set_cons_zero, List.set_cons_succ]
        refine wpAnyH_take' (i := 7) (v := ?_) rfl (by kernel_rfl) (by kernel_rfl) (by kernel_rfl) (fun _ _ _ h => h) (Or.inl ⟨by rfl, ?_⟩) (by assumption) ?_
        rotate_left
        · (intro w' hSw; (try dsimp only at hSw); go_simp; all_goals with_reducible rfl)
        try simp only [Act.put, List.setIfInBounds_toArray, List.set_cons_zero, List.set_cons_succ]
        refine wpAnyH_take' (i := 8) (v := ?_) rfl (by kernel_rfl) (by kernel_rfl) (by kernel_rfl) (fun _ _ _ h => h) (Or.inl ⟨by rfl, ?_⟩) (by assumption) ?_
        rotate_left
        · (intro w' hSw; (try dsimp only at hSw); go_simp; all_goals with_reducible rfl)
        try simp only [Act.put, List.setIfInBounds_toArray, List.set_cons_zero, List.set_cons_succ]
        refine wpAnyH_take' (i := 9) (v := ?_) rfl (by kernel_rfl) (by kernel_rfl) (by kernel_rfl) (fun _ _ _ h => h) (Or.inl ⟨by rfl, ?_⟩) (by assumption) ?_
        rotate_left
        · (intro w' hSw; (try dsimp only at hSw); go_simp; all_goals with_reducible rfl)
        try simp only [Act.put, List.setIfInBounds_toArray, List.set_cons_zero, List.set_cons_succ]
        refine wpAnyH_take' (i := 10) (v := ?_) rfl (by kernel_rfl) (by kernel_rfl) (by kernel_rfl) (fun _ _ _ h => h) (Or.inl ⟨by rfl, ?_⟩) (by assumption) ?_
        rotate_left
        · (intro w' hSw; (try dsimp only at hSw); go_simp; all_goals with_reducible rfl)
        try simp only [Act.put, List.setIfInBounds_toArray, List.set_cons_zero, List.set_cons_succ]
        refine wpAnyH_take' (i := 11) (v := ?_) rfl (by kernel_rfl) (by kernel_rfl) (by kernel_rfl) (fun _ _ _ h => h) (Or.inl ⟨by rfl, ?_⟩) (by assumption) ?_
        rotate_left
        · (intro w' hSw; (try dsimp only at hSw); go_simp; all_goals with_reducible rfl)
        try simp only [Act.put, List.setIfInBounds_toArray, List.set_cons_zero, List.set_cons_succ]
        refine wpAnyH_take' (i := 12) (v := ?_) rfl (by kernel_rfl) (by kernel_rfl) (by kernel_rfl) (fun _ _ _ h => h) (Or.inl ⟨by rfl, ?_⟩) (by assumption) ?_
        rotate_left
        · (intro w' hSw; (try dsimp only at hSw); go_simp; all_goals with_reducible rfl)
        try simp only [Act.put, List.setIfInBounds_toArray, List.set_cons_zero, List.set_cons_succ]
        refine wpAnyH_take' (i := 13) (v := ?_) rfl (by kernel_rfl) (by kernel_rfl) (by kernel_rfl) (fun _ _ _ h => h) (Or.inl ⟨by rfl, ?_⟩) (by assumption) ?_
        rotate_left
        · (intro w' hSw; (try dsimp only at hSw); go_simp; all_goals with_reducible rfl)
        try simp only [Act.put, List.setIfInBounds_toArray, List.set_cons_zero, List.set_cons_succ]
        refine wpAnyH_take' (i := 14) (v := ?_) rfl (by kernel_rfl) (by kernel_rfl) (by kernel_rfl) (fun _ _ _ h => h) (Or.inl ⟨by rfl, ?_⟩) (by assumption) ?_
        rotate_left
        · (intro w' hSw; (try dsimp only at hSw); go_simp; all_goals with_reducible rfl)
        try simp only [Act.put, List.setIfInBounds_toArray, List.set_cons_zero, List.set_cons_succ]
        refine wpAnyH_take' (i := 15) (v := ?_) rfl (by kernel_rfl) (by kernel_rfl) (by kernel_rfl) (fun _ _ _ h => h) (Or.inl ⟨by rfl, ?_⟩) (by assumption) ?_
        rotate_left
        · (intro w' hSw; (try dsimp only at hSw); go_simp; all_goals with_reducible rfl)
        try simp only [Act.put, List.setIfInBounds_toArray, List.set_cons_zero, List.set_cons_succ]
        refine wpAnyH_take' (i := 16) (v := ?_) rfl (by kernel_rfl) (by kernel_rfl) (by kernel_rfl) (fun _ _ _ h => h) (Or.inl ⟨by rfl, ?_⟩) (by assumption) ?_
        rotate_left
        · (intro w' hSw; (try dsimp only at hSw); go_simp; all_goals with_reducible rfl)
        try simp only [Act.put, List.setIfInBounds_toArray, List.set_cons_zero, List.set_cons_succ]
        refine wpAnyH_take' (i := 17) (v := ?_) rfl (by kernel_rfl) (by kernel_rfl) (by kernel_rfl) (fun _ _ _ h => h) (Or.inl ⟨by rfl, ?_⟩) (by assumption) ?_
        rotate_left
        · (intro w' hSw; (try dsimp only at hSw); go_simp; all_goals with_reducible rfl)
        try simp only [Act.put, List.setIfInBounds_toArray, List.set_cons_zero, List.set_cons_succ]
        refine wpAnyH_take' (i := 18) (v := ?_) rfl (by kernel_rfl) (by kernel_rfl) (by kernel_rfl) (fun _ _ _ h => h) (Or.inl ⟨by rfl, ?_⟩) (by assumption) ?_
        rotate_left
        · (intro w' hSw; (try dsimp only at hSw); go_simp; all_goals with_reducible rfl)
        try simp only [Act.put, List.setIfInBounds_toArray, List.set_cons_zero, List.set_cons_succ]
        refine wpAnyH_take' (i := 19) (v := ?_) rfl (by kernel_rfl) (by kernel_rfl) (by kernel_rfl) (fun _ _ _ h => h) (Or.inl ⟨by rfl, ?_⟩) (by assumption) ?_
        rotate_left
        · (intro w' hSw; (try dsimp only at hSw); go_simp; all_goals with_reducible rfl)
        try simp only [Act.put, List.setIfInBounds_toArray, List.set_cons_zero, List.set_cons_succ]
        refine wpAnyH_ready (rs := [20]) (by kernel_rfl) (by simp) ?_
        refine allReadyH_cons' rfl (fun Kn hKn => ?_) AllReadyH.nil
        go_simp
        have P5 := hid ((P4.out.row (j := 1) (x := .int .i64 (pp l k).2.2.1) (y := ((pp l k).1, (pp l k).2.2.1, (pp l k).2.2.1, (pp l k).2.2.2)) hkm (by decide) rfl).below (Below.refl _ _).drew)
        refine hKn.out _ _ ⟨(box_two P5.out.box).2, (box_two P5.out.arg).2, KX.out _ P5.out.bel⟩ (fun hHeldN => ?_)
        clear hKn Kn hHeld
        have hHeld := hHeldN
        clear hHeldN
        try simp only [Act.put, List.setIfInBounds_toArray, List.set_cons_zero, List.set_cons_succ]
        have A4' := hid (show Value.ownBlock (.slice a7 m c7) = none ∨ Value.ownBlock (.slice a7 m c7) ≠ some g1 from or_ne' (fun q e e2 => (A4.out q e).2 g1 rfl e2.symm))
        have O5 := hid ((O4.out.kept (grown_setCell w4 g1 (k * 4 + 1) (.int .i64 (pp l k).2.2.1)) A4'.out).below (Below.refl _ _).drew)
        generalize (w4.setCell ⟨g1, k * 4 + 1, none⟩ (.int .i64 (pp l k).2.2.1)).drew = w5 at *
        clear m0 m1 n0 n1 x1 x2 u1 u2 hf4 hbl hg1
        obtain ⟨_, _, e1, hg1, -, u1, u2, -⟩ := QAt.get (OwnS.at qf_len P5.out.own) k hkm
        cases e1
        simp only [Nat.zero_add] at u1 u2
        have hf5 := fun j => OwnS.frozen (j := j) P5.out.own
        have P6 := hid (P5.out.row (j := 2) (x := .int .i64 (pp l k).2.1) (y := flipQ (pp l k)) hkm (by decide) (by rw [set_at _ _ _ hll]; rfl))
        have P6' := P6.out
        rw [List.set_set] at P6'
        have P7 := hid P6'
        have O6 := hid (O5.out.kept (grown_setCell w5 g1 (k * 4 + 2) (.int .i64 (pp l k).2.1)) A4'.out)
        clear P6' P6
        refine wpAnyH_take' (i := 21) (v := ?_) rfl (by kernel_rfl) (by kernel_rfl) (by kernel_rfl) (fun _ _ _ h => h) (Or.inl ⟨by rfl, ?_⟩) (by assumption) ?_
        rotate_left
        · (intro w' hSw; (try dsimp only at hSw); go_simp; all_goals with_reducible rfl)
        try simp only [Act.put, List.setIfInBounds_toArray, List.set_cons_zero, List.set_cons_succ]
        refine wpAnyH_take' (i := 22) (v := ?_) rfl (by kernel_rfl) (by kernel_rfl) (by kernel_rfl) (fun _ _ _ h => h) (Or.inl ⟨by rfl, ?_⟩) (by assumption) ?_
        rotate_left
        · (intro w' hSw; (try dsimp only at hSw); go_simp; all_goals with_reducible rfl)
        try simp only [Act.put, List.setIfInBounds_toArray, List.set_cons_zero, List.set_cons_succ]
        refine wpAnyH_ready (rs := [23]) (by kernel_rfl) (by simp) ?_
        refine allReadyH_cons' rfl (fun Kn hKn => ?_) AllReadyH.nil
        go_simp
        refine hKn.out _ _ ⟨(box_two P7.out.box).2, (box_two P7.out.arg).2, KX.out _ P7.out.bel⟩ (fun hHeldN => ?_)
        clear hKn Kn hHeld
        have hHeld := hHeldN
        clear hHeldN
        try simp only [Act.put, List.setIfInBounds_toArray, List.set_cons_zero, List.set_cons_succ]
        generalize w5.setCell ⟨g1, k * 4 + 2, none⟩ (.int .i64 (pp l k).2.1) = w6 at *
        clear u1 u2 hf5 hg1
        refine wpAnyH_done (by kernel_rfl) ?_ _
        refine NoPanic.normal ?_
        clear hHeld
        obtain ⟨g7, rfl, hg70, hg71⟩ := own_some O6.out (by omega)
        have hc7 := O6.out.cell (k := k) hkm
        have hf7 := fun j => O6.out.frozen (k := j)
        have hw7 := IntWalk.i64_in (-(fs[k]?.getD 0)) (by omega)
        have O7 := hid (O6.out.set (k := k) (-(fs[k]?.getD 0))).1
        have hlo6 := P7.out.lo
        have A5 := A4.out g7 rfl
        have hg17 := A5.2 g1 rfl
        have P8 := hid (P7.out.far (g := g7) (j := k) (x := .int .i64 (-(fs[k]?.getD 0))) (by omega) (by omega) (fun q e => by have h2 : g1 = q := Option.some.inj e; omega))
        go_upto_region 7 with fail
        generalize w6.setCell ⟨g7, k, none⟩ (.int .i64 (-(fs[k]?.getD 0))) = w8 at *
        clear hc7 hf7 hw7
        obtain ⟨m0, m1⟩ := box_two P8.out.box
        obtain ⟨r0, r1⟩ := box_two P8.out.res
        have fr := fun j => frozen_of_row w8 (w.heap.size + 1) j _ _ P8.out.res
        have hb8 := P8.out.lt
        have hz8 : w.heap.size + 1 < w8.heap.size := by omega
        have hne8 : ¬ w.heap.size + 1 = b := by omega
        have hne9 : ¬ b = w.heap.size + 1 := by omega
        have hRl : (l.set k (flipQ (pp l k))).length = m := by simpa using HLL.out
        have hSl : (fs.set k (-(fs[k]?.getD 0))).length = m := by simpa using H'.out.1
        have HRl := hid hRl
        have HSl := hid hSl
        clear hRl hSl
        go_wp2
        refine bodyPost_ret (v := .tuple #[.agg #[.int .i64 N, .slice (some ⟨g1, 0, none⟩) m c1], .slice (some ⟨g7, 0, none⟩) m c7, .bool true]) (by simp [results, Try.results22, go_sem, *]) rfl ⟨some ⟨g1, 0, none⟩, c1, some ⟨g7, 0, none⟩, c7, by rw [HRl.out, HSl.out], ?_, ?_, ?_, (P8.out.bel.setCell (Nat.le_succ _) _).setCell (Nat.le_succ _) _⟩
        · rw [HRl.out]
          exact (OwnS.far (OwnS.far P8.out.own (by show w.heap.size + 1 < _; omega)) (by show w.heap.size + 1 < _; omega)).mono (by omega)
        · rw [HSl.out]
          exact (OwnI.far (OwnI.far O7.out (by show w.heap.size + 1 < _; omega)) (by show w.heap.size + 1 < _; omega)).mono (by omega)
        · exact .inr (fun e => by have h2 : g1 = g7 := Option.some.inj e; omega)
end Go.Proofs.Ytlnhikhpkcgegaa

