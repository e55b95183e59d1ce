/-
  Texts of this claim, joined: CurRing, DrawB, CurS.
-/
import Derived.Test.YtikjighlnpdgiaaRr4
import Derived.Test.YtikjighlnpdgiaaRr9
/-
  The draw of a ring.
-/
set_option linter.unusedVariables false
set_option linter.unusedSimpArgs false
namespace Go.Proofs.Ytikjighlnpdgiaa
open Go.RowKit

theorem OwnS.litS {α : Type} [Inhabited α] {f : α → List Value} {s : Nat} {e : TypeId} {w : World} {l : List α} {cs : Array Value} {g : Nat} (hf : ∀ x, (f x).length = s) (hc : cs = (l.flatMap f).toArray) (hg : g = w.heap.size) (hl : l.length ≤ 1000) : OwnS f s e (w.alloc (.cells cs e)) g (.slice (some ⟨g, 0, none⟩) l.length l.length) l := by
  subst hc
  subst hg
  refine ⟨flat_len f s hf l, .inr ⟨w.heap.size, l.length, (l.flatMap f).toArray, rfl, Nat.le_refl _, heap_alloc_new _ _, Nat.le_refl _, by unfold maxLen; omega, by simp [flat_len f s hf], ?_⟩⟩
  rw [← flat_len f s hf l]
  exact List.take_length

section
variable {w W W' : World} {g b K : Nat} {N : Int} {a : Option Addr} {m c : Nat} {L : List Pip}
theorem NB.row {row : Option Nat} (h : NB w W g b K N a m c L) (hg : W.grownBy W' row) (hr : ∀ k, row = some k → w.heap.size ≤ k ∧ k ≠ b) (hn : ∀ k, row = some k → ∀ q, Value.ownBlock (.slice a m c) = some q → q ≠ k) : NB w W' g b K N a m c L := by
  refine ⟨h.cur.kept hg (fun k e => by have := (hr k e).1; have := h.gb; omega), grown_step h.gro hg (fun k e => .inl (hr k e).1), (hg.block b h.lt (fun e => (hr b e.symm).2 rfl)).trans h.box, OwnS.kept h.own hg ?_, h.ne, h.lo, h.gb⟩
  cases e : Value.ownBlock (.slice a m c) with
  | none => exact .inl rfl
  | some q => exact .inr (fun e2 => hn q e2.symm q e rfl)
/-- Other pipes stored. -/
theorem NB.pipes {a' : Option Addr} {m' c' : Nat} {L' : List Pip} (h : NB w W g b K N a m c L) (ho : OwnQ W w.heap.size (.slice a' m' c') L') (hk : ∀ k, Value.ownBlock (.slice a' m' c') = some k → k ≠ b) :
    NB w (W.setCell ⟨b, 1, none⟩ (.slice a' m' c')) g b K N a' m' c' L' := by
  have h1 := heap_setCell_same _ b 1 _ _ (.slice a' m' c') h.box
  simp only [List.setIfInBounds_toArray, List.set_cons_zero, List.set_cons_succ] at h1
  have hn : Value.ownBlock (.slice a' m' c') = none ∨ Value.ownBlock (.slice a' m' c') ≠ some b := by
    cases e : Value.ownBlock (.slice a' m' c') with
    | none => exact .inl rfl
    | some k => exact .inr (fun e2 => hk k e (Option.some.inj e2))
  exact ⟨h.cur.set (by have := h.lo; have := h.gb; omega), grown_set h.gro h.lo, h1, OwnS.kept ho (grown_setCell W b 1 _) hn, hk, h.lo, h.gb⟩
/-- A new network, its pipes in a new block. -/
theorem NB.swapNew {M : Int} {l : List Pip} {cs : Array Value} (h : NB w W g b K N a m c L) (hc : cs = (l.flatMap qf).toArray) (hl : l.length ≤ 1000) :
    NB w (((W.setCell ⟨b, 0, none⟩ (.int .i64 M)).setCell ⟨b, 1, none⟩ (.slice (some ⟨W.heap.size, 0, none⟩) l.length l.length)).alloc (.cells cs 71)) g b K M (some ⟨W.heap.size, 0, none⟩) l.length l.length l := by
  have h2 := h.nodes (M := M)
  have h1 := heap_setCell_same _ b 1 _ _ (.slice (some ⟨W.heap.size, 0, none⟩) l.length l.length) h2.box
  simp only [List.setIfInBounds_toArray, List.set_cons_zero, List.set_cons_succ] at h1
  have hlt := h.lt
  have hz := h.gro.size
  have hcu : Cur ((W.setCell ⟨b, 0, none⟩ (.int .i64 M)).setCell ⟨b, 1, none⟩ (.slice (some ⟨W.heap.size, 0, none⟩) l.length l.length)) g K := h2.cur.set (by have := h.lo; have := h.gb; omega)
  have hgr : w.grownBy ((W.setCell ⟨b, 0, none⟩ (.int .i64 M)).setCell ⟨b, 1, none⟩ (.slice (some ⟨W.heap.size, 0, none⟩) l.length l.length)) (some g) := grown_set h2.gro h.lo
  have hsz : ((W.setCell ⟨b, 0, none⟩ (.int .i64 M)).setCell ⟨b, 1, none⟩ (.slice (some ⟨W.heap.size, 0, none⟩) l.length l.length)).heap.size = W.heap.size := by simp
  generalize (W.setCell ⟨b, 0, none⟩ (.int .i64 M)).setCell ⟨b, 1, none⟩ (.slice (some ⟨W.heap.size, 0, none⟩) l.length l.length) = W2 at *
  have hbb : Below W2.heap.size W2 (W2.alloc (.cells cs 71)) := by go_grown
  refine ⟨hcu.below hbb, grownBy_trans hgr (grown_of_below hbb _), (Below.heap_alloc _ _ _ (Array.getElem?_eq_some_iff.1 h1).1).trans h1, (OwnS.litS qf_len hc hsz.symm hl).mono hz, ?_, h.lo, h.gb⟩
  intro k e
  have := Option.some.inj e
  dsimp only at this
  omega
end
theorem small_good {q1 q2 : Int} (h1 : 1 ≤ q1 ∧ q1 ≤ 9) (h2 : 1 ≤ q2 ∧ q2 ≤ 9) : goodNet 3 [(1, 1, 2, q1), (4, 3, 2, q2)] = true := by
  refine goodNet_iff.2 ⟨by omega, by simp, ?_, ?_⟩
  · intro p hp
    simp only [List.mem_cons, List.not_mem_nil, or_false] at hp
    rcases hp with rfl | rfl
    · exact fine_ok (by omega) (by omega) (by omega) (by omega) h1
    · exact fine_ok (by omega) (by omega) (by omega) (by omega) h2
  · simp

set_option maxRecDepth 100000 in
set_option maxHeartbeats 8000000 in
theorem c_ring (g K : Nat) (w : World) (h : Cur w g K) (hK : K ≤ 100000000) :
    Calls Try.prog 54 #[.pointer (some ⟨g, 0, none⟩)] w fun e w' => (∃ (N : Int) (a : Option Addr) (m c : Nat), e = .returned (.agg #[.int .i64 N, .slice a m c]) ∧ (0 ≤ N ∧ N ≤ 9 ∧ m ≤ 11) ∧ ∃ L : List Pip, OwnQ w' w.heap.size (.slice a m c) L) ∧ Cur w' g (K + 900) ∧ w.grownBy w' (some g) := by
  obtain ⟨i0, hi, hz0, hz1', hz2⟩ := info_parts Try.infoPipe
  have HI := hid hi
  have HZ := hid hz0
  have HZ1 := hid hz1'
  have HZ2 := hid hz2
  clear hi hz0 hz1' hz2
  have H := hid h
  have hgz := h.lt
  clear h
  have B0 := hid (by go_grown : Below w.heap.size w (w.alloc (.cells #[.int .i64 0, .slice none 0 0] 31)))
  have T0 := hid (heap_alloc_new w (.cells #[.int .i64 0, .slice none 0 0] 31))
  have hz0 : w.heap.size < (w.alloc (.cells #[.int .i64 0, .slice none 0 0] 31)).heap.size := by simp
  go_enter Try.func54, Try.ntmps54
  go_upto_region 1 with fail
  generalize w.alloc (.cells #[.int .i64 0, .slice none 0 0] 31) = w0 at *
  go_wp2_with fail
  refine (c_networkG g K _ (H.out.below B0.out) (by omega)).mono ?_
  rintro e w1 ⟨⟨N, a, m, c, rfl, ⟨hN0, hN1, hm⟩, L, ho, hgd⟩, hc1, hg1⟩
  have hz1 := hg1.size
  have HC := hid hc1
  have HG := hid hg1
  have HO := hid ho
  have HGD := hid hgd
  clear hc1 hg1 ho hgd
  go_upto_region 2 with fail
  have S2 := hid (show NB w0 (w1.alloc (.cells #[.int .i64 N, .slice a m c] 31)) g w1.heap.size (K + 300) N a m c L from
    ⟨HC.out.below (by go_grown), grownBy_trans HG.out (grown_of_below (by go_grown) _), heap_alloc_new _ _, OwnS.below HO.out (by go_grown), fun k e => by have := (OwnS.lt HO.out k e).2; omega, by omega, by omega⟩)
  clear HC HG HO
  obtain ⟨b3, hb3⟩ : ∃ b3, w1.heap.size = b3 := ⟨_, rfl⟩
  rw [hb3] at S2 hz1 ⊢
  generalize w1.alloc (.cells #[.int .i64 N, .slice a m c] 31) = w2 at *
  clear hb3
  obtain ⟨M, rfl⟩ : ∃ M : Nat, N = M := ⟨N.toNat, by omega⟩
  go_cut [21] (fun s21 wx => ∃ b : Bool, s21 = .bool b ∧ Hid ((b = false → 2 ≤ M) ∧ NB w0 wx g b3 (K + 300) M a m c L))
  case first =>
    have hgb := S2.out.gb
    obtain ⟨m0, m1⟩ := two_of S2.out.box
    have hlt2 := S2.out.lt
    refine wp_region_noPanic ?_
    refine wp_region_held_drew (S := (fun w' => w'.cell? ⟨b3, 0, none⟩ = some (.int .i64 M) ∧ w'.cell? ⟨b3, 1, none⟩ = some (.slice a m c))) (by kernel_rfl) (by exact ⟨m0, m1⟩) (fun hHeld => ?_)
    by_cases hM1 : M = 1
    · subst hM1
      refine wpAnyH_take' (i := 0) (v := ?_) rfl (by kernel_rfl) (by kernel_rfl) (by kernel_rfl) (fun _ _ _ h => h) (Or.inl ⟨by rfl, ?_⟩) (by assumption) ?_
      rotate_left
      · (intro w' hSw; (try dsimp only at hSw); go_simp; all_goals with_reducible rfl)
      try simp only [Act.put, List.setIfInBounds_toArray, List.set_cons_zero, List.set_cons_succ]
      refine wpAnyH_take' (i := 1) (v := ?_) rfl (by kernel_rfl) (by kernel_rfl) (by kernel_rfl) (fun _ _ _ h => h) (Or.inl ⟨by rfl, ?_⟩) (by assumption) ?_
      rotate_left
      · (intro w' hSw; (try dsimp only at hSw); go_simp; all_goals with_reducible rfl)
      try simp only [Act.put, List.setIfInBounds_toArray, List.set_cons_zero, List.set_cons_succ]
      refine wpAnyH_take' (i := 2) (v := ?_) rfl (by kernel_rfl) (by kernel_rfl) (by kernel_rfl) (fun _ _ _ h => h) (Or.inl ⟨by rfl, ?_⟩) (by assumption) ?_
      rotate_left
      · (intro w' hSw; (try dsimp only at hSw); go_simp; all_goals with_reducible rfl)
      try simp only [Act.put, List.setIfInBounds_toArray, List.set_cons_zero, List.set_cons_succ]
      refine wpAnyH_take' (i := 3) (v := ?_) rfl (by kernel_rfl) (by kernel_rfl) (by kernel_rfl) (fun _ _ _ h => h) (Or.inl ⟨by rfl, ?_⟩) (by assumption) ?_
      rotate_left
      · (intro w' hSw; (try dsimp only at hSw); go_simp; all_goals with_reducible rfl)
      try simp only [Act.put, List.setIfInBounds_toArray, List.set_cons_zero, List.set_cons_succ]
      refine wpAnyH_take' (i := 4) (v := undef) rfl (by kernel_rfl) (by kernel_rfl) (by kernel_rfl) (fun _ _ _ h => h) (Or.inr ⟨by rfl, rfl⟩) (by assumption) ?_
      try simp only [Act.put, List.setIfInBounds_toArray, List.set_cons_zero, List.set_cons_succ]
      refine wpAnyH_take' (i := 5) (v := undef) rfl (by kernel_rfl) (by kernel_rfl) (by kernel_rfl) (fun _ _ _ h => h) (Or.inr ⟨by rfl, rfl⟩) (by assumption) ?_
      try simp only [Act.put, List.setIfInBounds_toArray, List.set_cons_zero, List.set_cons_succ]
      refine wpAnyH_take' (i := 6) (v := undef) rfl (by kernel_rfl) (by kernel_rfl) (by kernel_rfl) (fun _ _ _ h => h) (Or.inr ⟨by rfl, rfl⟩) (by assumption) ?_
      try simp only [Act.put, List.setIfInBounds_toArray, List.set_cons_zero, List.set_cons_succ]
      refine wpAnyH_take' (i := 7) (v := undef) rfl (by kernel_rfl) (by kernel_rfl) (by kernel_rfl) (fun _ _ _ h => h) (Or.inr ⟨by rfl, rfl⟩) (by assumption) ?_
      try simp only [Act.put, List.setIfInBounds_toArray, List.set_cons_zero, List.set_cons_succ]
      refine wpAnyH_take' (i := 8) (v := undef) rfl (by kernel_rfl) (by kernel_rfl) (by kernel_rfl) (fun _ _ _ h => h) (Or.inr ⟨by rfl, rfl⟩) (by assumption) ?_
      try simp only [Act.put, List.setIfInBounds_toArray, List.set_cons_zero, List.set_cons_succ]
      refine wpAnyH_take' (i := 9) (v := undef) rfl (by kernel_rfl) (by kernel_rfl) (by kernel_rfl) (fun _ _ _ h => h) (Or.inr ⟨by rfl, rfl⟩) (by assumption) ?_
      try simp only [Act.put, List.setIfInBounds_toArray, List.set_cons_zero, List.set_cons_succ]
      refine wpAnyH_take' (i := 10) (v := ?_) rfl (by kernel_rfl) (by kernel_rfl) (by kernel_rfl) (fun _ _ _ h => h) (Or.inl ⟨by rfl, ?_⟩) (by assumption) ?_
      rotate_left
      · (intro w' hSw; (try dsimp only at hSw); go_simp; all_goals with_reducible rfl)
      try simp only [Act.put, List.setIfInBounds_toArray, List.set_cons_zero, List.set_cons_succ]
      refine wpAnyH_done (by kernel_rfl) ?_ _
      refine NoPanic.normal ?_
      clear hHeld
      go_wp2_with fail
      go_meet
      exact ⟨true, rfl, hid ⟨fun e => (by cases e), S2.out.below (Below.refl _ _).drew⟩⟩
    · have hM1i : ((M : Int) == 1) = false := by simp; omega
      refine wpAnyH_take' (i := 0) (v := ?_) rfl (by kernel_rfl) (by kernel_rfl) (by kernel_rfl) (fun _ _ _ h => h) (Or.inl ⟨by rfl, ?_⟩) (by assumption) ?_
      rotate_left
      · (intro w' hSw; (try dsimp only at hSw); go_simp; all_goals with_reducible rfl)
      try simp only [Act.put, List.setIfInBounds_toArray, List.set_cons_zero, List.set_cons_succ]
      refine wpAnyH_take' (i := 1) (v := ?_) rfl (by kernel_rfl) (by kernel_rfl) (by kernel_rfl) (fun _ _ _ h => h) (Or.inl ⟨by rfl, ?_⟩) (by assumption) ?_
      rotate_left
      · (intro w' hSw; (try dsimp only at hSw); go_simp; all_goals with_reducible rfl)
      try simp only [Act.put, List.setIfInBounds_toArray, List.set_cons_zero, List.set_cons_succ]
      refine wpAnyH_take' (i := 2) (v := ?_) rfl (by kernel_rfl) (by kernel_rfl) (by kernel_rfl) (fun _ _ _ h => h) (Or.inl ⟨by rfl, ?_⟩) (by assumption) ?_
      rotate_left
      · (intro w' hSw; (try dsimp only at hSw); go_simp; all_goals with_reducible rfl)
      try simp only [Act.put, List.setIfInBounds_toArray, List.set_cons_zero, List.set_cons_succ]
      refine wpAnyH_take' (i := 3) (v := ?_) rfl (by kernel_rfl) (by kernel_rfl) (by kernel_rfl) (fun _ _ _ h => h) (Or.inl ⟨by rfl, ?_⟩) (by assumption) ?_
      rotate_left
      · (intro w' hSw; (try dsimp only at hSw); go_simp; all_goals with_reducible rfl)
      try simp only [Act.put, List.setIfInBounds_toArray, List.set_cons_zero, List.set_cons_succ]
      refine wpAnyH_take' (i := 4) (v := ?_) rfl (by kernel_rfl) (by kernel_rfl) (by kernel_rfl) (fun _ _ _ h => h) (Or.inl ⟨by rfl, ?_⟩) (by assumption) ?_
      rotate_left
      · (intro w' hSw; (try dsimp only at hSw); go_simp; all_goals with_reducible rfl)
      try simp only [Act.put, List.setIfInBounds_toArray, List.set_cons_zero, List.set_cons_succ]
      refine wpAnyH_take' (i := 7) (v := ?_) rfl (by kernel_rfl) (by kernel_rfl) (by kernel_rfl) (fun _ _ _ h => h) (Or.inl ⟨by rfl, ?_⟩) (by assumption) ?_
      rotate_left
      · (intro w' hSw; (try dsimp only at hSw); go_simp; all_goals with_reducible rfl)
      try simp only [Act.put, List.setIfInBounds_toArray, List.set_cons_zero, List.set_cons_succ]
      refine wpAnyH_take' (i := 8) (v := ?_) rfl (by kernel_rfl) (by kernel_rfl) (by kernel_rfl) (fun _ _ _ h => h) (Or.inl ⟨by rfl, ?_⟩) (by assumption) ?_
      rotate_left
      · (intro w' hSw; (try dsimp only at hSw); go_simp; all_goals with_reducible rfl)
      try simp only [Act.put, List.setIfInBounds_toArray, List.set_cons_zero, List.set_cons_succ]
      refine wpAnyH_ready (rs := [5]) (by kernel_rfl) (by simp) ?_
      refine allReadyH_cons' rfl (fun Kn hKn => ?_) AllReadyH.nil
      go_simp
      go_at_call 74
      refine (s_l2Reached M 1 _ _ _ L _ (OwnS.at qf_len (S2.out.below (by go_grown)).own) HGD.out (by omega)).mono ?_
      rintro e w4 ⟨g4, c4, rfl, ho4, hb4⟩
      have S4 := hid (S2.out.below (bstep (by go_grown) hb4))
      clear hb4 ho4 m0 m1 hlt2 S2
      obtain ⟨m0, m1⟩ := two_of S4.out.box
      have hlt4 := S4.out.lt
      obtain ⟨q, hq⟩ : ∃ q, (reachL M L 0 1).length = q := ⟨_, rfl⟩
      rw [hq]
      clear hq
      refine hKn.out _ _ ⟨m0, m1⟩ (fun hHeldN => ?_)
      clear hKn Kn hHeld
      have hHeld := hHeldN
      clear hHeldN
      try simp only [Act.put, List.setIfInBounds_toArray, List.set_cons_zero, List.set_cons_succ]
      refine wpAnyH_take' (i := 6) (v := ?_) rfl (by kernel_rfl) (by kernel_rfl) (by kernel_rfl) (fun _ _ _ h => h) (Or.inl ⟨by rfl, ?_⟩) (by assumption) ?_
      rotate_left
      · (intro w' hSw; (try dsimp only at hSw); go_simp; all_goals with_reducible rfl)
      try simp only [Act.put, List.setIfInBounds_toArray, List.set_cons_zero, List.set_cons_succ]
      refine wpAnyH_take' (i := 9) (v := ?_) rfl (by kernel_rfl) (by kernel_rfl) (by kernel_rfl) (fun _ _ _ h => h) (Or.inl ⟨by rfl, ?_⟩) (by assumption) ?_
      rotate_left
      · (intro w' hSw; (try dsimp only at hSw); go_simp; all_goals with_reducible rfl)
      try simp only [Act.put, List.setIfInBounds_toArray, List.set_cons_zero, List.set_cons_succ]
      refine wpAnyH_take' (i := 10) (v := ?_) rfl (by kernel_rfl) (by kernel_rfl) (by kernel_rfl) (fun _ _ _ h => h) (Or.inl ⟨by rfl, ?_⟩) (by assumption) ?_
      rotate_left
      · (intro w' hSw; (try dsimp only at hSw); go_simp; all_goals with_reducible rfl)
      try simp only [Act.put, List.setIfInBounds_toArray, List.set_cons_zero, List.set_cons_succ]
      refine wpAnyH_done (by kernel_rfl) ?_ _
      refine NoPanic.normal ?_
      clear hHeld
      go_wp2_with fail
      go_meet
      exact ⟨_, rfl, hid ⟨fun _ => by omega, S4.out⟩⟩
  case rest =>
    obtain ⟨b, rfl, hh⟩ := hcut
    obtain ⟨w4, rfl⟩ : ∃ W, W = wc := ⟨_, rfl⟩
    have S4 := hid hh.out.2
    have HB := hid hh.out.1
    clear hh S2
    have hgb := S4.out.gb
    go_upto_if 21 with (fail)
    go_cut [] from 9 (fun wx => ∃ (M' : Nat) (a' : Option Addr) (m' c' : Nat) (L' : List Pip), 2 ≤ M' ∧ Hid (NB w0 wx g b3 (K + 310) M' a' m' c' L' ∧ goodNet M' L' = true))
    case first =>
      cases b
      · have hM2 := HB.out rfl
        clear HB
        go_wp2_with fail
        go_meet
        exact ⟨M, a, m, c, L, hM2, hid ⟨S4.out.le (by omega), HGD.out⟩⟩
      · clear HB
        go_wp2_with fail
        refine (c_pick g _ 9 _ S4.out.cur (by omega) (by omega)).mono ?_
        rintro e w5 ⟨⟨v1, rfl, d10, d11⟩, hc5, hg5⟩
        have S5 := hid (S4.out.step hc5 hg5)
        clear hc5 hg5
        have hw1 : IntKind.i64.wrap (1 + v1) = 1 + v1 := IntWalk.i64_in _ (by omega)
        go_wp2_with fail
        refine (c_pick g _ 9 _ S5.out.cur (by omega) (by omega)).mono ?_
        rintro e w6 ⟨⟨v2, rfl, d20, d21⟩, hc6, hg6⟩
        have S6 := hid (S5.out.step hc6 hg6)
        clear hc6 hg6
        have hw2 : IntKind.i64.wrap (1 + v2) = 1 + v2 := IntWalk.i64_in _ (by omega)
        have HV := hid (small_good (q1 := 1 + v1) (q2 := 1 + v2) ⟨by omega, by omega⟩ ⟨by omega, by omega⟩)
        have S7 := hid (S6.out.swapNew (M := 3) (l := [(1, 1, 2, 1 + v1), (4, 3, 2, 1 + v2)]) (cs := #[.int .i64 1, .int .i64 1, .int .i64 2, .int .i64 (1 + v1), .int .i64 4, .int .i64 3, .int .i64 2, .int .i64 (1 + v2)]) rfl (by simp))
        obtain ⟨m0, m1⟩ := two_of S6.out.box
        have hlt6 := S6.out.lt
        have f6 := fun j => frozen_of_row w6 b3 j _ _ S6.out.box
        go_wp2_with fail
        go_meet
        exact ⟨3, _, _, _, _, by omega, hid ⟨S7.out.le (K' := K + 310) (by omega), HV.out⟩⟩
    case rest =>
      obtain ⟨M', a', m', c', L', hM2, hh⟩ := hcut
      obtain ⟨w5, rfl⟩ : ∃ W, W = wc := ⟨_, rfl⟩
      clear S4 HB HGD hN0 hN1 hm
      have HGD := hid hh.out.2
      have hM8 : M' ≤ 8 := by have := (goodNet_get HGD.out).1; omega
      have S5 := hid hh.out.1
      clear hh
      go_wp2_with fail
      refine (c_one g _ 10 _ S5.out.cur (by omega) (by omega)).mono ?_
      rintro e w6 ⟨⟨b1, rfl⟩, hc6, hg6⟩
      have S6 := hid (S5.out.step hc6 hg6)
      clear hc6 hg6 S5
      cases b1
      · have hm10 : m' ≤ 10 := by have := (goodNet_get HGD.out).2.1; have := OwnS.len S6.out.own; omega
        obtain ⟨m0, m1⟩ := two_of S6.out.box
        have hlt6 := S6.out.lt
        go_wp2_with fail
        refine (s_l8Spanning M' _ _ _ L' _ (OwnS.at qf_len S6.out.own) HGD.out).mono ?_
        rintro e w7 ⟨a7, m7, c7, rfl, ho7, hb7⟩
        have hm7 : m7 ≤ 10 := by
          have h1 := OwnS.len ho7
          have h2 := OwnS.len S6.out.own
          have h3 := span_len L' (k := m') (by omega)
          omega
        have hz6 := S6.out.gro.size
        have S7 := hid ((S6.out.below hb7).swap (M := M') (OwnS.mono ho7 hz6) (fun k e => by have := (OwnS.lt ho7 k e).1; omega))
        have BX := hid (S6.out.below hb7).box
        have f7 := fun j => frozen_of_row w7 b3 j _ _ BX.out
        have hlt7 : b3 < w7.heap.size := by have := hb7.size; omega
        clear hb7 ho7 m0 m1 S6 hlt6
        obtain ⟨m0, m1⟩ := two_of BX.out
        go_upto_region 7 with fail
        generalize (w7.setCell ⟨b3, 0, none⟩ (.int .i64 M')).setCell ⟨b3, 1, none⟩ (.slice a7 m7 c7) = w8 at *
        clear m0 m1 f7 BX hlt7
        obtain ⟨m0, m1⟩ := two_of S7.out.box
        have hlt8 := S7.out.lt
        go_wp2_with fail
        refine (c_pick g _ M' _ S7.out.cur (by omega) (by omega)).mono ?_
        rintro e w9 ⟨⟨v, rfl, d0, d1⟩, hc9, hg9⟩
        have S9 := hid (S7.out.step hc9 hg9)
        clear hc9 hg9 m0 m1 hlt8 S7
        obtain ⟨m0, m1⟩ := two_of S9.out.box
        have hlt9 := S9.out.lt
        have hw1 : IntKind.i64.wrap (1 + v) = 1 + v := IntWalk.i64_in _ (by omega)
        go_upto_region 8 with fail
        obtain ⟨F, hF⟩ : ∃ F, 1 + v = F := ⟨_, rfl⟩
        rw [hF] at hw1 ⊢
        have hF1 : 1 ≤ F ∧ F ≤ 8 := ⟨by omega, by omega⟩
        clear hF hw1 d0 d1
        have hMz : ¬ (M' : Int) = 0 := by omega
        have hMz2 : ((M' : Int) == 0) = false := by simp; omega
        have hMz3 : ¬ M' = 0 := by omega
        have hwM : IntKind.i64.wrap ((M' : Int) - 1) = (M' : Int) - 1 := IntWalk.i64_in _ (by omega)
        refine wp_region_noPanic ?_
        refine wp_region_to (fun w' => w'.cell? ⟨b3, 0, none⟩ = some (.int .i64 M') ∧ w'.cell? ⟨b3, 1, none⟩ = some (.slice a7 m7 c7)) 21 (by kernel_rfl) (by exact ⟨m0, m1⟩) (fun hHeld => ?_)
        refine AnyTo.take (i := 0) (v := ?_) rfl (by kernel_rfl) (by kernel_rfl) (by kernel_rfl) (by kernel_rfl) (fun _ _ _ h => h) (Or.inl ⟨by rfl, ?_⟩) (by assumption) ?_
        rotate_left
        · (intro w' hSw; (try dsimp only at hSw); go_simp; all_goals with_reducible rfl)
        try simp only [Act.put, List.setIfInBounds_toArray, List.set_cons_zero, List.set_cons_succ]
        refine AnyTo.take (i := 1) (v := ?_) rfl (by kernel_rfl) (by kernel_rfl) (by kernel_rfl) (by kernel_rfl) (fun _ _ _ h => h) (Or.inl ⟨by rfl, ?_⟩) (by assumption) ?_
        rotate_left
        · (intro w' hSw; (try dsimp only at hSw); go_simp; all_goals with_reducible rfl)
        try simp only [Act.put, List.setIfInBounds_toArray, List.set_cons_zero, List.set_cons_succ]
        refine AnyTo.take (i := 2) (v := ?_) rfl (by kernel_rfl) (by kernel_rfl) (by kernel_rfl) (by kernel_rfl) (fun _ _ _ h => h) (Or.inl ⟨by rfl, ?_⟩) (by assumption) ?_
        rotate_left
        · (intro w' hSw; (try dsimp only at hSw); go_simp; all_goals with_reducible rfl)
        try simp only [Act.put, List.setIfInBounds_toArray, List.set_cons_zero, List.set_cons_succ]
        refine AnyTo.take (i := 3) (v := ?_) rfl (by kernel_rfl) (by kernel_rfl) (by kernel_rfl) (by kernel_rfl) (fun _ _ _ h => h) (Or.inl ⟨by rfl, ?_⟩) (by assumption) ?_
        rotate_left
        · (intro w' hSw; (try dsimp only at hSw); go_simp; all_goals with_reducible rfl)
        try simp only [Act.put, List.setIfInBounds_toArray, List.set_cons_zero, List.set_cons_succ]
        refine AnyTo.take (i := 4) (v := ?_) rfl (by kernel_rfl) (by kernel_rfl) (by kernel_rfl) (by kernel_rfl) (fun _ _ _ h => h) (Or.inl ⟨by rfl, ?_⟩) (by assumption) ?_
        rotate_left
        · (intro w' hSw; (try dsimp only at hSw); go_simp; all_goals with_reducible rfl)
        try simp only [Act.put, List.setIfInBounds_toArray, List.set_cons_zero, List.set_cons_succ]
        refine AnyTo.take (i := 5) (v := ?_) rfl (by kernel_rfl) (by kernel_rfl) (by kernel_rfl) (by kernel_rfl) (fun _ _ _ h => h) (Or.inl ⟨by rfl, ?_⟩) (by assumption) ?_
        rotate_left
        · (intro w' hSw; (try dsimp only at hSw); go_simp; all_goals with_reducible rfl)
        try simp only [Act.put, List.setIfInBounds_toArray, List.set_cons_zero, List.set_cons_succ]
        refine AnyTo.take (i := 6) (v := ?_) rfl (by kernel_rfl) (by kernel_rfl) (by kernel_rfl) (by kernel_rfl) (fun _ _ _ h => h) (Or.inl ⟨by rfl, ?_⟩) (by assumption) ?_
        rotate_left
        · (intro w' hSw; (try dsimp only at hSw); go_simp; all_goals with_reducible rfl)
        try simp only [Act.put, List.setIfInBounds_toArray, List.set_cons_zero, List.set_cons_succ]
        refine AnyTo.take (i := 7) (v := ?_) rfl (by kernel_rfl) (by kernel_rfl) (by kernel_rfl) (by kernel_rfl) (fun _ _ _ h => h) (Or.inl ⟨by rfl, ?_⟩) (by assumption) ?_
        rotate_left
        · (intro w' hSw; (try dsimp only at hSw); go_simp; all_goals with_reducible rfl)
        try simp only [Act.put, List.setIfInBounds_toArray, List.set_cons_zero, List.set_cons_succ]
        refine AnyTo.take (i := 10) (v := ?_) rfl (by kernel_rfl) (by kernel_rfl) (by kernel_rfl) (by kernel_rfl) (fun _ _ _ h => h) (Or.inl ⟨by rfl, ?_⟩) (by assumption) ?_
        rotate_left
        · (intro w' hSw; (try dsimp only at hSw); go_simp; all_goals with_reducible rfl)
        try simp only [Act.put, List.setIfInBounds_toArray, List.set_cons_zero, List.set_cons_succ]
        refine AnyTo.take (i := 11) (v := ?_) rfl (by kernel_rfl) (by kernel_rfl) (by kernel_rfl) (by kernel_rfl) (fun _ _ _ h => h) (Or.inl ⟨by rfl, ?_⟩) (by assumption) ?_
        rotate_left
        · (intro w' hSw; (try dsimp only at hSw); go_simp; all_goals with_reducible rfl)
        try simp only [Act.put, List.setIfInBounds_toArray, List.set_cons_zero, List.set_cons_succ]
        refine AnyTo.take (i := 14) (v := ?_) rfl (by kernel_rfl) (by kernel_rfl) (by kernel_rfl) (by kernel_rfl) (fun _ _ _ h => h) (Or.inl ⟨by rfl, ?_⟩) (by assumption) ?_
        rotate_left
        · (intro w' hSw; (try dsimp only at hSw); go_simp; all_goals with_reducible rfl)
        try simp only [Act.put, List.setIfInBounds_toArray, List.set_cons_zero, List.set_cons_succ]
        refine AnyTo.one (i := 8) rfl (by kernel_rfl) (fun Kn hKn => ?_)
        go_simp
        go_at_call 89
        refine (c_pick g _ ((M' : Int) - 1) _ (S9.out.below (by go_grown)).cur (by omega) (by omega)).mono ?_
        rintro e w10 ⟨⟨v1, rfl, d0, d1⟩, hc10, hg10⟩
        have S10 := hid ((S9.out.below (by go_grown)).step hc10 hg10)
        have hw2 : IntKind.i64.wrap (F + v1) = F + v1 := IntWalk.i64_in _ (by omega)
        clear hc10 hg10 hHeld hwM m0 m1 hlt9 S9
        obtain ⟨m0, m1⟩ := two_of S10.out.box
        have hlt10 := S10.out.lt
        refine hKn.out _ _ ⟨m0, m1⟩ (fun hHeld => ?_)
        clear hKn Kn
        try simp only [Act.put, List.setIfInBounds_toArray, List.set_cons_zero, List.set_cons_succ]
        refine AnyTo.take (i := 9) (v := ?_) rfl (by kernel_rfl) (by kernel_rfl) (by kernel_rfl) (by kernel_rfl) (fun _ _ _ h => h) (Or.inl ⟨by rfl, ?_⟩) (by assumption) ?_
        rotate_left
        · (intro w' hSw; (try dsimp only at hSw); go_simp; all_goals with_reducible rfl)
        try simp only [Act.put, List.setIfInBounds_toArray, List.set_cons_zero, List.set_cons_succ]
        refine AnyTo.take (i := 12) (v := ?_) rfl (by kernel_rfl) (by kernel_rfl) (by kernel_rfl) (by kernel_rfl) (fun _ _ _ h => h) (Or.inl ⟨by rfl, ?_⟩) (by assumption) ?_
        rotate_left
        · (intro w' hSw; (try dsimp only at hSw); go_simp; all_goals with_reducible rfl)
        try simp only [Act.put, List.setIfInBounds_toArray, List.set_cons_zero, List.set_cons_succ]
        refine AnyTo.take (i := 13) (v := ?_) rfl (by kernel_rfl) (by kernel_rfl) (by kernel_rfl) (by kernel_rfl) (fun _ _ _ h => h) (Or.inl ⟨by rfl, ?_⟩) (by assumption) ?_
        rotate_left
        · (intro w' hSw; (try dsimp only at hSw); go_simp; all_goals with_reducible rfl)
        try simp only [Act.put, List.setIfInBounds_toArray, List.set_cons_zero, List.set_cons_succ]
        refine AnyTo.one (i := 15) rfl (by kernel_rfl) (fun Kn hKn => ?_)
        go_simp
        go_at_call 89
        refine (c_pick g _ 9 _ (S10.out.below (by go_grown)).cur (by omega) (by omega)).mono ?_
        rintro e w11 ⟨⟨v2, rfl, -, -⟩, hc11, hg11⟩
        have S11 := hid ((S10.out.below (by go_grown)).step hc11 hg11)
        obtain ⟨p0, p1⟩ := two_of S11.out.box
        have hlt11 := S11.out.lt
        clear hc11 hg11 hHeld d0 d1
        refine hKn.out _ _ ⟨p0, p1⟩ (fun hHeld => ?_)
        clear hKn Kn
        try simp only [Act.put, List.setIfInBounds_toArray, List.set_cons_zero, List.set_cons_succ]
        refine AnyTo.take (i := 16) (v := ?_) rfl (by kernel_rfl) (by kernel_rfl) (by kernel_rfl) (by kernel_rfl) (fun _ _ _ h => h) (Or.inl ⟨by rfl, ?_⟩) (by assumption) ?_
        rotate_left
        · (intro w' hSw; (try dsimp only at hSw); go_simp; all_goals with_reducible rfl)
        try simp only [Act.put, List.setIfInBounds_toArray, List.set_cons_zero, List.set_cons_succ]
        refine AnyTo.take (i := 17) (v := ?_) rfl (by kernel_rfl) (by kernel_rfl) (by kernel_rfl) (by kernel_rfl) (fun _ _ _ h => h) (Or.inl ⟨by rfl, ?_⟩) (by assumption) ?_
        rotate_left
        · (intro w' hSw; (try dsimp only at hSw); go_simp; all_goals with_reducible rfl)
        try simp only [Act.put, List.setIfInBounds_toArray, List.set_cons_zero, List.set_cons_succ]
        refine AnyTo.one (i := 18) rfl (by kernel_rfl) (fun Kn hKn => ?_)
        go_simp
        have BW := hid (by go_grown : Below w11.heap.size w11 (w11.alloc (.cells #[.int .i64 90, .int .i64 F, .int .i64 (IntKind.i64.wrap (1 + (F + v1).tmod M')), .int .i64 (IntKind.i64.wrap (1 + v2))] 71)))
        have hszB := BW.out.size
        have HS1 := hid (SAt.single (e := 71) w11 (90, F, IntKind.i64.wrap (1 + (F + v1).tmod M'), IntKind.i64.wrap (1 + v2)) qf_len)
        clear hHeld
        refine hKn.out _ _ (two_of ((S11.out.below BW.out).box)) (fun hHeld => ?_)
        clear hKn Kn
        try simp only [Act.put, List.setIfInBounds_toArray, List.set_cons_zero, List.set_cons_succ]
        refine AnyTo.one (i := 19) rfl (by kernel_rfl) (fun Kn hKn => ?_)
        refine step_append_q (by rfl) _ _ (by rfl) w0.heap.size _ _ (by rfl) (OwnS.alloc S11.out.own _) _ 1 _ [(90, F, IntKind.i64.wrap (1 + (F + v1).tmod M'), IntKind.i64.wrap (1 + v2))] (by rfl) HS1.out (m7 + 1) (by have := OwnS.len S11.out.own; simp; omega) (by omega) (by have := S11.out.gro.size; simp; omega) ?_
        intro a5 c5 w12 hown hgrow hblk
        have hgr2 : w11.grownBy w12 (Value.ownBlock (.slice a7 m7 c7)) := grownBy_trans (grown_of_below BW.out _) hgrow
        have hbx := (hgr2.block b3 hlt11 (fun e => S11.out.ne _ e.symm rfl)).trans S11.out.box
        have hz12 := hgr2.size
        obtain ⟨u0, u1⟩ := two_of hbx
        have fu := fun j => frozen_of_row w12 b3 j _ _ hbx
        have hb12 : b3 < w12.heap.size := by omega
        have S12 := hid (S11.out.put hgr2 hown (hblk.imp id (fun e k h => by rw [e] at h; have := Option.some.inj h; omega)))
        clear hown hgrow hblk hgr2 hbx hHeld p0 p1 hw2 hMz hMz2 hMz3 hF1
        refine hKn.out _ _ ⟨u0, u1⟩ (fun hHeld => ?_)
        clear hKn Kn
        try simp only [Act.put, List.setIfInBounds_toArray, List.set_cons_zero, List.set_cons_succ]
        refine AnyTo.take (i := 20) (v := ?_) rfl (by kernel_rfl) (by kernel_rfl) (by kernel_rfl) (by kernel_rfl) (fun _ _ _ h => h) (Or.inl ⟨by rfl, ?_⟩) (by assumption) ?_
        rotate_left
        · (intro w' hSw; (try dsimp only at hSw); go_simp; all_goals with_reducible rfl)
        try simp only [Act.put, List.setIfInBounds_toArray, List.set_cons_zero, List.set_cons_succ]
        refine AnyTo.last rfl (by kernel_rfl) (by kernel_rfl) (fun Kn hKn => ?_)
        go_simp
        refine hKn.out _ _ ?_
        clear hKn Kn
        try simp only [Act.put, List.setIfInBounds_toArray, List.set_cons_zero, List.set_cons_succ]
        refine NoPanic.normal ?_
        clear hHeld u0 u1 fu m0 m1 hlt10 hlt11 S10 S11 BW HS1
        generalize w12.setCell ⟨b3, 1, none⟩ (.slice a5 (m7 + 1) c5) = w13 at *
        obtain ⟨n1, hn1⟩ : ∃ n1, m7 + 1 = n1 := ⟨_, rfl⟩
        rw [hn1] at S12 ⊢
        generalize hLL : span L' m' ++ [(90, F, IntKind.i64.wrap (1 + (F + v1).tmod M'), IntKind.i64.wrap (1 + v2))] = LL at *
        clear hLL
        go_wp2_with fail
        refine (c_one g _ 2 _ S12.out.cur (by omega) (by omega)).mono ?_
        rintro e w14 ⟨⟨b2, rfl⟩, hc14, hg14⟩
        have S14 := hid (S12.out.step hc14 hg14)
        clear hc14 hg14 S12
        go_upto_if 65 with (fail)
        go_cut [] from 5 (fun wx => ∃ (a' : Option Addr) (c' : Nat) (R : List Pip), Hid (NB w0 wx g b3 (K + 360) M' a' n1 c' R))
        case first =>
          cases b2
          · go_wp2_with fail
            go_meet
            exact ⟨_, _, _, hid (S14.out.le (by omega))⟩
          · have HL14 := hid (OwnS.len S14.out.own)
            have hwn : IntKind.i64.wrap ((n1 : Int) - 1) = (m7 : Int) := by rw [IntWalk.i64_in _ (by omega)]; omega
            have hin : (m7 : Int) < (n1 : Int) := by omega
            have hm70 : (0 : Int) ≤ (m7 : Int) := by omega
            obtain ⟨m0, m1⟩ := two_of S14.out.box
            have hlt14 := S14.out.lt
            obtain ⟨bq, oq, eq, hbq, x0, x1, x2, x3⟩ := QAt.get (OwnS.at qf_len S14.out.own) m7 (by omega)
            subst eq
            obtain ⟨⟨y0, y1, y2, y3⟩, hy⟩ : ∃ y : Pip, pp LL m7 = y := ⟨_, rfl⟩
            rw [hy] at x0 x1 x2 x3
            clear hy
            dsimp only at x0 x1 x2 x3
            go_upto_region 11 with fail
            have S15 := hid (S14.out.below (by go_grown : Below w14.heap.size w14 (w14.alloc (.cells #[.int .i64 y0, .int .i64 y1, .int .i64 y2, .int .i64 y3] 71))))
            have P15 := hid (heap_alloc_new w14 (.cells #[.int .i64 y0, .int .i64 y1, .int .i64 y2, .int .i64 y3] 71))
            have hz15 : w14.heap.size < (w14.alloc (.cells #[.int .i64 y0, .int .i64 y1, .int .i64 y2, .int .i64 y3] 71)).heap.size := by simp
            have hlo14 : w0.heap.size ≤ w14.heap.size := S14.out.gro.size
            have HB14 := hid (fun r hr => (OwnS.lt S14.out.own r hr).2)
            obtain ⟨pb, hpb⟩ : ∃ pb, w14.heap.size = pb := ⟨_, rfl⟩
            rw [hpb] at P15 hz15 hlt14 hlo14 HB14 ⊢
            generalize w14.alloc (.cells #[.int .i64 y0, .int .i64 y1, .int .i64 y2, .int .i64 y3] 71) = w15 at *
            clear x0 x1 x2 x3 m0 m1 hbq hpb S14
            have fa := frozen_of_row w15 pb 0 _ _ P15.out
            have r1 := heap_setCell_same _ pb 0 _ _ (.int .i64 1) P15.out
            simp only [List.setIfInBounds_toArray, List.set_cons_zero, List.set_cons_succ] at r1
            obtain ⟨z0, z1, z2, z3⟩ := four_of P15.out
            have S16 := hid (S15.out.row (grown_setCell w15 pb 0 (.int .i64 1)) (fun k e => by have := Option.some.inj e; omega) (fun k e q hq => by have := Option.some.inj e; have := HB14.out q hq; omega))
            have P16 := hid r1
            have hz16 : pb < (w15.setCell ⟨pb, 0, none⟩ (.int .i64 1)).heap.size := by simpa using hz15
            clear r1
            go_upto_region 12 with fail
            generalize w15.setCell ⟨pb, 0, none⟩ (.int .i64 1) = w16 at *
            clear z0 z1 z2 z3 fa P15 S15 hz15
            obtain ⟨z0, z1, z2, z3⟩ := four_of P16.out
            go_upto_region 13 with fail
            have S17 := hid (S16.out.below (by go_grown : Below w16.heap.size w16 (w16.alloc (.cells #[.int .i64 1, .int .i64 y1, .int .i64 y2, .int .i64 y3] 71))))
            have O17 := hid (OwnS.litS (w := w16) (e := 71) (l := [((1 : Int), y1, y2, y3)]) (cs := #[.int .i64 1, .int .i64 y1, .int .i64 y2, .int .i64 y3]) qf_len rfl rfl (by simp))
            obtain ⟨Z, hZ⟩ : ∃ Z, w16.heap.size = Z := ⟨_, rfl⟩
            rw [hZ] at O17 hz16 ⊢
            generalize w16.alloc (.cells #[.int .i64 1, .int .i64 y1, .int .i64 y2, .int .i64 y3] 71) = w17 at *
            clear z0 z1 z2 z3 P16 S16 hZ
            go_wp2
            go_loopg [6, 7] m7 (fun gm t6 t7 wr => ∃ (k : Nat) (a6 : Option Addr) (c6 : Nat) (R : List Pip), k ≤ m7 ∧ gm = m7 - k ∧ t7 = .int .i64 k ∧ t6 = .slice a6 (k + 1) c6 ∧ Hid (NB w0 wr g b3 (K + 360) M' (some ⟨bq, oq, none⟩) n1 c5 LL ∧ OwnQ wr Z (.slice a6 (k + 1) c6) R ∧ Z < wr.heap.size))
            case atStart => exact ⟨0, _, _, _, Nat.zero_le _, rfl, rfl, rfl, hid ⟨S17.out.le (by omega), O17.out, (OwnS.lt O17.out _ rfl).2⟩⟩
            case round =>
              obtain ⟨k, a6, c6, R, hk, rfl, rfl, rfl, hh⟩ := hrel
              clear S17 O17
              obtain ⟨m0, m1⟩ := two_of hh.out.1.box
              have hltr := hh.out.1.lt
              have hwk : IntKind.i64.wrap ((k : Int) + 1) = ((k + 1 : Nat) : Int) := by rw [IntWalk.i64_in _ (by omega)]; omega
              by_cases hlt : k < m7
              · have hk1 : (k : Int) < (n1 : Int) := by omega
                have hk2 : ((k + 1 : Nat) : Int) < (n1 : Int) := by omega
                have hk0 : (0 : Int) ≤ (k : Int) := by omega
                obtain ⟨bk, ok, ek, hbk, x0, x1, x2, x3⟩ := QAt.get (OwnS.at qf_len hh.out.1.own) k (by omega)
                cases ek
                obtain ⟨⟨q0, q1, q2, q3⟩, hq⟩ : ∃ y : Pip, pp LL k = y := ⟨_, rfl⟩
                rw [hq] at x0 x1 x2 x3
                clear hq
                dsimp only at x0 x1 x2 x3
                obtain ⟨Y, hY⟩ : ∃ Y, IntKind.i64.wrap (q0 + 1) = Y := ⟨_, rfl⟩
                go_upto_region 17 with fail
                have S5 := hid (hh.out.1.below (by go_grown : Below wr.heap.size wr (wr.alloc (.cells #[.int .i64 q0, .int .i64 q1, .int .i64 q2, .int .i64 q3] 71))))
                have O5 := hid (OwnS.alloc hh.out.2.1 (.cells #[.int .i64 q0, .int .i64 q1, .int .i64 q2, .int .i64 q3] 71))
                have P5 := hid (heap_alloc_new wr (.cells #[.int .i64 q0, .int .i64 q1, .int .i64 q2, .int .i64 q3] 71))
                have hz5 : wr.heap.size < (wr.alloc (.cells #[.int .i64 q0, .int .i64 q1, .int .i64 q2, .int .i64 q3] 71)).heap.size := by simp
                have HB5 := hid (fun r hr => OwnS.lt hh.out.2.1 r hr)
                have hzr := hh.out.2.2
                obtain ⟨pk, hpk⟩ : ∃ pk, wr.heap.size = pk := ⟨_, rfl⟩
                rw [hpk] at P5 hz5 HB5 hzr ⊢
                generalize wr.alloc (.cells #[.int .i64 q0, .int .i64 q1, .int .i64 q2, .int .i64 q3] 71) = w5 at *
                clear x0 x1 x2 x3 hbk m0 m1 hh hpk hltr
                have fk := frozen_of_row w5 pk 0 _ _ P5.out
                have r1 := heap_setCell_same _ pk 0 _ _ (.int .i64 Y) P5.out
                simp only [List.setIfInBounds_toArray, List.set_cons_zero, List.set_cons_succ] at r1
                obtain ⟨z0, z1, z2, z3⟩ := four_of P5.out
                have S6 := hid (S5.out.row (grown_setCell w5 pk 0 (.int .i64 Y)) (fun k e => by have := Option.some.inj e; omega) (fun k e q hq => by have := Option.some.inj e; have := HB14.out q hq; omega))
                have O6 := hid (OwnS.kept O5.out (grown_setCell w5 pk 0 (.int .i64 Y)) (own_old (fun r hr => (HB5.out r hr).2) (Nat.le_refl _)))
                have P6 := hid r1
                have hz6 : pk < (w5.setCell ⟨pk, 0, none⟩ (.int .i64 Y)).heap.size := by simpa using hz5
                clear r1
                go_upto_region 18 with fail
                generalize w5.setCell ⟨pk, 0, none⟩ (.int .i64 Y) = w6 at *
                clear z0 z1 z2 z3 fk P5 S5 O5 hz5
                obtain ⟨z0, z1, z2, z3⟩ := four_of P6.out
                have HS1 := hid (SAt.single (e := 71) w6 (Y, q1, q2, q3) qf_len)
                go_wp2_with (at_builtin; refine wp_append_s _ rfl _ _ _ rfl 71 i0 (.agg #[.int .i64 0, .int .i64 0, .int .i64 0, .int .i64 0]) 32 Try.underlying29 HI.out HZ.out HZ1.out HZ2.out rfl (by decide) qf_len qf_one Z _ R rfl (OwnS.alloc O6.out _) _ 1 1 [(Y, q1, q2, q3)] rfl HS1.out (k + 1 + 1) (by have := OwnS.len O6.out; simp; omega) (by omega) (by omega) (by simp; omega) ?_)
                intro a5 c9 w12 hown hgrow hblk
                have hgr2 : w6.grownBy w12 (Value.ownBlock (.slice a6 (k + 1) c6)) := grownBy_trans (grown_of_below (by go_grown) _) hgrow
                have hz12 := hgr2.size
                have SN := hid (S6.out.row hgr2 (fun r e => by have := (HB5.out r e).1; omega) (fun r e q hq => by have := (HB5.out r e).1; have := HB14.out q hq; omega))
                have ON := hid hown
                clear hown hgrow hblk hgr2 z0 z1 z2 z3 S6 O6 P6 HS1
                go_wp2
                go_roundg (m7 - (k + 1))
                case rel => exact ⟨k + 1, _, _, _, by omega, rfl, by first | rfl | go_num, rfl, hid ⟨SN.out, ON.out, by omega⟩⟩
                case measure => omega
              · have e9 : k + 1 = n1 := by omega
                have hk3 : ¬ ((k + 1 : Nat) : Int) < (n1 : Int) := by omega
                rw [e9] at hh hwk hk3 ⊢
                have fz := fun j => frozen_of_row wr b3 j _ _ hh.out.1.box
                go_wp2
                go_meet
                exact ⟨_, _, R, hid (hh.out.1.pipes (OwnS.mono hh.out.2.1 (by omega)) (fun r e => by have := (OwnS.lt hh.out.2.1 r e).1; omega))⟩
        case rest =>
          obtain ⟨a9, c9, R9, hh⟩ := hcut
          obtain ⟨w15, rfl⟩ : ∃ W, W = wc := ⟨_, rfl⟩
          clear S14
          have TZ := hid ((hh.out.gro.block w.heap.size hz0 (fun e => by have := Option.some.inj e; omega)).trans T0.out)
          obtain ⟨z0, z1⟩ := two_of TZ.out
          obtain ⟨e0, e1⟩ := two_of hh.out.box
          have hblo := hh.out.lo
          have hblt := hh.out.lt
          have fz := fun j => frozen_of_row w15 w.heap.size j _ _ TZ.out
          have hne : ¬ w.heap.size = b3 := by omega
          have hne2 : ¬ b3 = w.heap.size := by omega
          have hzr : w.heap.size < (w15).heap.size := by omega
          go_wp2
          refine bodyPost_ret (v := .agg #[.int .i64 M', .slice a9 n1 c9]) (by simp [results, Try.results54, go_sem, *]) rfl ⟨⟨M', a9, n1, c9, rfl, ⟨by omega, by omega, by omega⟩, R9, ?_⟩, ?_, ?_⟩
          · exact ((OwnS.far (OwnS.far hh.out.own (by omega)) (by omega))).mono (by omega)
          · exact (((hh.out.cur.le (by omega)).set hgz).set hgz)
          · exact grown_set (grown_set (grownBy_trans (grown_of_below B0.out _) hh.out.gro) (Nat.le_refl _)) (Nat.le_refl _)
      · go_wp2_with fail
        refine (c_anyNetwork g _ _ S6.out.cur (by omega)).mono ?_
        rintro e w7 ⟨⟨N7, a7, m7, c7, rfl, ⟨x0, x1, x2⟩, L7, ho7⟩, hc7, hg7⟩
        have HG7 := hid (grownBy_trans S6.out.gro hg7)
        have HO7 := hid (OwnS.mono ho7 (Nat.le_trans S6.out.gro.size (Nat.le_refl _)))
        have HC7 := hid hc7
        clear ho7 hc7 hg7
        have TZ := hid ((HG7.out.block w.heap.size hz0 (fun e => by have := Option.some.inj e; omega)).trans T0.out)
        obtain ⟨z0, z1⟩ := two_of TZ.out
        have fz := fun j => frozen_of_row w7 w.heap.size j _ _ TZ.out
        have hzr : w.heap.size < w7.heap.size := by have := HG7.out.size; omega
        go_wp2
        refine bodyPost_ret (v := .agg #[.int .i64 N7, .slice a7 m7 c7]) (by simp [results, Try.results54, go_sem, *]) rfl ⟨⟨N7, a7, m7, c7, rfl, ⟨by omega, by omega, by omega⟩, L7, ?_⟩, ?_, ?_⟩
        · exact ((OwnS.far (OwnS.far HO7.out (by omega)) (by omega))).mono (by omega)
        · exact (((HC7.out.le (by omega)).set hgz).set hgz)
        · exact grown_set (grown_set (grownBy_trans (grown_of_below B0.out _) HG7.out) (Nat.le_refl _)) (Nat.le_refl _)

end Go.Proofs.Ytikjighlnpdgiaa

/-
  Inside a draw of a network: what is carried.
-/
set_option linter.unusedVariables false
set_option linter.unusedSimpArgs false
namespace Go.Proofs.Ytikjighlnpdgiaa
open Go.RowKit

/-- Inside a draw: the cursor at g, the network's box at b, the box of the result, all new since w. -/
structure DB (w W : World) (g b K : Nat) (N : Int) (a : Option Addr) (m c : Nat) (L : List Pip) : Prop where
  cur : Cur W g K
  bel : Below w.heap.size w W
  box : W.heap[b]? = some (.cells #[.int .i64 N, .slice a m c] 31 (0, 0))
  res : W.heap[w.heap.size]? = some (.cells #[.int .i64 0, .slice none 0 0] 31 (0, 0))
  own : OwnQ W (w.heap.size + 1) (.slice a m c) L
  ne : ∀ k, Value.ownBlock (.slice a m c) = some k → k ≠ b ∧ k ≠ g
  lo : w.heap.size < b ∧ w.heap.size < g ∧ b ≠ g
/-- A list that is new since w, apart from the cursor. -/
structure LB (w W : World) (g : Nat) (a : Option Addr) (k c : Nat) (l : List Int) : Prop where
  own : OwnI W (w.heap.size + 1) (.slice a k c) l
  ne : ∀ q, Value.ownBlock (.slice a k c) = some q → q ≠ g
section
variable {w W W' : World} {g b K : Nat} {N : Int} {a : Option Addr} {m c k : Nat} {L : List Pip} {l : List Int}
theorem or_ne {x : Option Nat} {g : Nat} (h : ∀ q, x = some q → q ≠ g) : x = none ∨ x ≠ some g := by
  cases x with
  | none => exact .inl rfl
  | some q => exact .inr (fun e => h q rfl (Option.some.inj e))
theorem DB.lt (h : DB w W g b K N a m c L) : b < W.heap.size ∧ w.heap.size < W.heap.size := ⟨(Array.getElem?_eq_some_iff.1 h.box).1, (Array.getElem?_eq_some_iff.1 h.res).1⟩
theorem DB.step {K' : Nat} (h : DB w W g b K N a m c L) (hc : Cur W' g K') (hg : W.grownBy W' (some g)) : DB w W' g b K' N a m c L :=
  ⟨hc, h.bel.grown hg h.bel.size (fun q e => by have := Option.some.inj e; have := h.lo; omega), (hg.block b h.lt.1 (fun e => by have := Option.some.inj e; have := h.lo; omega)).trans h.box, (hg.block _ h.lt.2 (fun e => by have := Option.some.inj e; have := h.lo; omega)).trans h.res, OwnS.kept h.own hg (or_ne (fun q e => (h.ne q e).2)), h.ne, h.lo⟩
theorem DB.below (h : DB w W g b K N a m c L) (hb : Below W.heap.size W W') : DB w W' g b K N a m c L := h.step (h.cur.below hb) (grown_of_below hb _)
theorem DB.le {K' : Nat} (h : DB w W g b K N a m c L) (hk : K ≤ K') : DB w W g b K' N a m c L := ⟨h.cur.le hk, h.bel, h.box, h.res, h.own, h.ne, h.lo⟩
/-- Another list grown, in blocks from Z on. -/
theorem DB.row {Z : Nat} {row : Option Nat} (h : DB w W g b K N a m c L) (hg : W.grownBy W' row) (hr : ∀ q, row = some q → Z ≤ q) (hn : ∀ q, Value.ownBlock (.slice a m c) = some q → q < Z) (hz : g < Z ∧ b < Z ∧ w.heap.size < Z) : DB w W' g b K N a m c L :=
  ⟨h.cur.kept hg (fun q e => by have := hr q e; omega), h.bel.grown hg h.bel.size (fun q e => by have := hr q e; omega), (hg.block b h.lt.1 (fun e => by have := hr b e.symm; omega)).trans h.box, (hg.block _ h.lt.2 (fun e => by have := hr _ e.symm; omega)).trans h.res, OwnS.kept h.own hg (by
    cases e : Value.ownBlock (.slice a m c) with
    | none => exact .inl rfl
    | some q => exact .inr (fun e2 => by have h1 := hr q e2.symm; have h2 := hn q e; omega)), h.ne, h.lo⟩
/-- The result stored. -/
structure DE (w W : World) (b : Nat) (N : Int) (a : Option Addr) (m c : Nat) (L : List Pip) : Prop where
  bel : Below w.heap.size w W
  box : W.heap[b]? = some (.cells #[.int .i64 N, .slice a m c] 31 (0, 0))
  own : OwnQ W (w.heap.size + 1) (.slice a m c) L
theorem DB.put {u v : Value} (h : DB w W g b K N a m c L) : DE w ((W.setCell ⟨w.heap.size, 0, none⟩ u).setCell ⟨w.heap.size, 1, none⟩ v) b N a m c L := by
  refine ⟨(h.bel.setCell (Nat.le_refl _) _).setCell (Nat.le_refl _) _, ?_, OwnS.far (OwnS.far h.own (by omega)) (by omega)⟩
  exact (Below.heap_setCell _ _ _ _ (by have := h.lo; show b ≠ w.heap.size; omega)).trans ((Below.heap_setCell _ _ _ _ (by have := h.lo; show b ≠ w.heap.size; omega)).trans h.box)
theorem LB.step (h : LB w W g a k c l) (hg : W.grownBy W' (some g)) : LB w W' g a k c l := ⟨h.own.kept hg (or_ne h.ne), h.ne⟩
theorem LB.below (h : LB w W g a k c l) (hb : Below W.heap.size W W') : LB w W' g a k c l := h.step (grown_of_below hb _)
theorem LB.put {u v : Value} (h : LB w W g a k c l) : OwnI ((W.setCell ⟨w.heap.size, 0, none⟩ u).setCell ⟨w.heap.size, 1, none⟩ v) (w.heap.size + 1) (.slice a k c) l := OwnI.far (OwnI.far h.own (by omega)) (by omega)
theorem LB.new {B : Nat} (h : OwnI W B (.slice a k c) l) (hB : g < B) (hw : w.heap.size < B) : LB w W g a k c l := ⟨h.mono (by omega), fun q e => by have := (h.lt q e).1; omega⟩
theorem own_addr {b o : Nat} (h : ∀ q, Value.ownBlock (.slice a k c) = some q → q ≠ g) (e : a = some ⟨b, o, none⟩) : b ≠ g := by
  subst e
  exact h b rfl
end

end Go.Proofs.Ytikjighlnpdgiaa

/-
  The draw of small demands.
-/
set_option linter.unusedVariables false
set_option linter.unusedSimpArgs false
namespace Go.Proofs.Ytikjighlnpdgiaa
open Go.RowKit

set_option maxRecDepth 100000 in
set_option maxHeartbeats 8000000 in
theorem c_small (g K : Nat) (N : Int) (a : Option Addr) (n c : Nat) (w : World) (h : Cur w g K) (hK : K ≤ 10000000000) (hN : N ≤ 1000) :
    Calls Try.prog 56 #[.pointer (some ⟨g, 0, none⟩), .agg #[.int .i64 N, .slice a n c]] w fun e w' => (∃ (a' : Option Addr) (m c' : Nat) (l : List Int), e = .returned (.slice a' m c') ∧ OwnI w' w.heap.size (.slice a' m c') l ∧ m ≤ 1001) ∧ Cur w' g (K + 3000) ∧ w.grownBy w' (some g) := by
  have H := hid h
  have hgz := h.lt
  clear h
  have B0 := hid (by go_grown : Below w.heap.size w (w.alloc (.cells #[.int .i64 N, .slice a n c] 31)))
  have T0 := hid (heap_alloc_new w (.cells #[.int .i64 N, .slice a n c] 31))
  have hz0 : (w.alloc (.cells #[.int .i64 N, .slice a n c] 31)).heap.size = w.heap.size + 1 := by simp
  go_enter Try.func56, Try.ntmps56
  go_upto_region 1 with fail
  generalize w.alloc (.cells #[.int .i64 N, .slice a n c] 31) = w0 at *
  have hz : w.heap.size < w0.heap.size := by omega
  clear hz0
  go_wp2
  go_loopg [5, 6] N.toNat (fun m o i wr => ∃ (k : Nat) (a' : Option Addr) (c' : Nat) (l : List Int), k ≤ N.toNat ∧ m = N.toNat - k ∧ i = .int .i64 ((k : Int) + 1) ∧ o = .slice a' k c' ∧ Hid (OwnI wr w0.heap.size (.slice a' k c') l ∧ Cur wr g (K + 2 * k) ∧ w0.grownBy wr (some g) ∧ wr.heap[w.heap.size]? = some (.cells #[.int .i64 N, .slice a n c] 31 (0, 0))))
  case atStart => exact ⟨0, _, 0, [], Nat.zero_le _, rfl, rfl, rfl, hid ⟨OwnI.lit0 w0, (H.out.below B0.out).below (by go_grown), grown_of_below (by go_grown) _, by rw [Below.heap_alloc _ _ _ hz]; exact T0.out⟩⟩
  case round =>
    obtain ⟨k, a', c', l, hk, rfl, rfl, rfl, hh⟩ := hrel
    obtain ⟨m0, m1⟩ := two_of hh.out.2.2.2
    have hzr : w.heap.size < wr.heap.size := World.block_lt_of_cell? wr _ m0
    by_cases hlt : (k : Int) + 1 ≤ N
    · go_wp2_with fail
      refine (c_among g (K + 2 * k) wr.heap.size 6 6 [0, 1, 2, 5, 10, 20] _ (hh.out.2.1.below (by go_grown)) (by omega) (IntsAt.lit' _ 3 [0, 1, 2, 5, 10, 20] rfl rfl) (by have := hh.out.2.1.lt; omega) (by omega) (by omega)).mono ?_
      rintro e w5 ⟨⟨v, rfl, hv⟩, hc5, hg5⟩
      have HG := hid (grownBy_trans (grown_of_below (by go_grown) _) hg5 : wr.grownBy w5 (some g))
      have W5 := hid (show OwnI w5 w0.heap.size (.slice a' k c') l ∧ Cur w5 g (K + 2 * k + 2) ∧ w0.grownBy w5 (some g) ∧ w5.heap[w.heap.size]? = some (.cells #[.int .i64 N, .slice a n c] 31 (0, 0)) from
        ⟨hh.out.1.kept HG.out (ownI_ne hh.out.1 (by omega)), hc5, grownBy_trans hh.out.2.2.1 HG.out, (HG.out.block _ hzr (by simp <;> omega)).trans hh.out.2.2.2⟩)
      have hz5 := HG.out.size
      have hll := hh.out.1.len
      clear hc5 hg5 hv m0 m1 hzr HG
      go_wp2_with (at_builtin; refine wp_append_ints _ rfl _ _ rfl w0.heap.size _ l rfl (W5.out.1.alloc _) _ 1 1 [v] rfl (IntsAt.single _ _) (k + 1) (by simp; omega) (by omega) (by have := W5.out.2.2.1.size; simp; omega) ?_)
      intro a2 c2 w6 hown hgrow hblk
      have S2 := hid (show OwnI w6 w0.heap.size (.slice a2 (k + 1) c2) (l ++ [v]) ∧ Cur w6 g (K + 2 * (k + 1)) ∧ w0.grownBy w6 (some g) ∧ w6.heap[w.heap.size]? = some (.cells #[.int .i64 N, .slice a n c] 31 (0, 0)) from
        ⟨hown, ((W5.out.2.1.below (by go_grown)).kept hgrow (fun k hk => by have := (W5.out.1.lt k hk).1; omega)).le (by omega), grown_step (grownBy_trans W5.out.2.2.1 (grown_of_below (by go_grown) _)) hgrow (fun k hk => .inl (by have := (W5.out.1.lt k hk).1; omega)), (hgrow.block _ (by have := W5.out.2.2.1.size; simp; omega) (fun e => by have := (W5.out.1.lt _ e.symm).1; omega)).trans (by rw [Below.heap_alloc _ _ _ (by have := W5.out.2.2.1.size; omega)]; exact W5.out.2.2.2)⟩)
      clear hown hgrow hblk
      have hw1 : IntKind.i64.wrap ((k : Int) + 1 + 1) = ((k + 1 : Nat) : Int) + 1 := by rw [IntWalk.i64_in _ (by omega)]; omega
      go_wp2
      go_roundg (N.toNat - (k + 1))
      case rel => exact ⟨k + 1, _, _, _, by omega, rfl, by simp, rfl, S2⟩
      case measure => omega
    · have hk2 : k ≤ 1000 := by omega
      have hll := hh.out.1.len
      by_cases h0 : 0 < k
      · have h0i : (0 : Int) < (k : Int) := by omega
        obtain ⟨go, rfl, hgo1, hgo2⟩ := own_some hh.out.1 h0
        go_wp2_with fail
        refine (c_one g _ 16 _ hh.out.2.1 (by omega) (by omega)).mono ?_
        rintro e w5 ⟨⟨b, rfl⟩, hc5, hg5⟩
        have S5 := hid (show OwnI w5 w0.heap.size (.slice (some ⟨go, 0, none⟩) k c') l ∧ Cur w5 g (K + 2 * k + 2) ∧ w0.grownBy w5 (some g) from ⟨hh.out.1.kept hg5 (ownI_ne hh.out.1 (by omega)), hc5, grownBy_trans hh.out.2.2.1 hg5⟩)
        clear hc5 hg5
        cases b
        · go_wp2
          go_ret
          first
            | exact ⟨⟨_, _, _, _, rfl, S5.out.1.mono (by omega), by omega⟩, S5.out.2.1.le (by omega), grownBy_trans (grown_of_below B0.out _) S5.out.2.2⟩
            | exact ⟨⟨_, _, _, rfl, ⟨_, S5.out.1.mono (by omega)⟩, by omega⟩, S5.out.2.1.le (by omega), grownBy_trans (grown_of_below B0.out _) S5.out.2.2⟩
        · go_wp2_with fail
          refine (c_pick g _ k _ S5.out.2.1 (by omega) (by omega)).mono ?_
          rintro e w6 ⟨⟨v, rfl, v0, v1⟩, hc6, hg6⟩
          obtain ⟨i, rfl⟩ : ∃ i : Nat, v = i := ⟨v.toNat, by omega⟩
          have S6 := hid (show OwnI w6 w0.heap.size (.slice (some ⟨go, 0, none⟩) k c') l ∧ Cur w6 g (K + 2 * k + 4) ∧ w0.grownBy w6 (some g) from ⟨S5.out.1.kept hg6 (ownI_ne S5.out.1 (by omega)), hc6, grownBy_trans S5.out.2.2 hg6⟩)
          have hi : i < k := by omega
          have hi2 : (i : Int) < (k : Int) := by omega
          clear hc6 hg6 v1
          go_wp2_with fail
          refine (c_among g _ w6.heap.size 3 3 [200, 201, -1] _ (S6.out.2.1.below (by go_grown)) (by omega) (IntsAt.lit' _ 3 [200, 201, -1] rfl rfl) (by have := S6.out.2.1.lt; omega) (by omega) (by omega)).mono ?_
          rintro e w7 ⟨⟨u, rfl, hu⟩, hc7, hg7⟩
          have S7 := hid (show OwnI w7 w0.heap.size (.slice (some ⟨go, 0, none⟩) k c') l ∧ Cur w7 g (K + 2 * k + 6) ∧ w0.grownBy w7 (some g) from ⟨(S6.out.1.alloc _).kept hg7 (ownI_ne S6.out.1 (by omega)), hc7, grownBy_trans (grownBy_trans S6.out.2.2 (grown_of_below (by go_grown) _)) hg7⟩)
          have hcl := S7.out.1.cell (k := i) hi
          have hfr := S7.out.1.frozen (k := i)
          have SS := hid (S7.out.1.set (k := i) u)
          have S8 := hid (show OwnI (w7.setCell ⟨go, i, none⟩ (.int .i64 u)) w0.heap.size (.slice (some ⟨go, 0, none⟩) k c') (l.set i u) ∧ Cur (w7.setCell ⟨go, i, none⟩ (.int .i64 u)) g (K + 2 * k + 6) ∧ w0.grownBy (w7.setCell ⟨go, i, none⟩ (.int .i64 u)) (some g) from ⟨SS.out.1, S7.out.2.1.set (by omega), grown_set S7.out.2.2 (by omega)⟩)
          clear hc7 hg7 hu
          go_upto_region 8 with fail
          generalize w7.setCell ⟨go, i, none⟩ (.int .i64 u) = w8 at *
          have hll2 : (l.set i u).length = k := by simpa using hll
          clear hcl hfr SS
          go_wp2
          go_ret
          first
            | exact ⟨⟨_, _, _, _, rfl, S8.out.1.mono (by omega), by omega⟩, S8.out.2.1.le (by omega), grownBy_trans (grown_of_below B0.out _) S8.out.2.2⟩
            | exact ⟨⟨_, _, _, rfl, ⟨_, S8.out.1.mono (by omega)⟩, by omega⟩, S8.out.2.1.le (by omega), grownBy_trans (grown_of_below B0.out _) S8.out.2.2⟩
      · obtain rfl : k = 0 := by omega
        have S5 := hid (show OwnI wr w0.heap.size (.slice a' 0 c') l ∧ Cur wr g (K + 2 * 0 + 2) ∧ w0.grownBy wr (some g) from ⟨hh.out.1, hh.out.2.1.le (by omega), hh.out.2.2.1⟩)
        go_wp2
        go_ret
        first
          | exact ⟨⟨_, _, _, _, rfl, S5.out.1.mono (by omega), by omega⟩, S5.out.2.1.le (by omega), grownBy_trans (grown_of_below B0.out _) S5.out.2.2⟩
          | exact ⟨⟨_, _, _, rfl, ⟨_, S5.out.1.mono (by omega)⟩, by omega⟩, S5.out.2.1.le (by omega), grownBy_trans (grown_of_below B0.out _) S5.out.2.2⟩

end Go.Proofs.Ytikjighlnpdgiaa

