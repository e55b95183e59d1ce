/-
  Networks: IsBalanced.
-/
import Derived.Test.YtheaagbffphdmaaNetH
set_option linter.unusedVariables false
set_option linter.unusedSimpArgs false
namespace Go.Proofs.Ytheaagbffphdmaa
open Go.RowKit

/-- No node has an imbalance. -/
def bal (l : List Pip) (ds fs : List Int) (s : Int) (M : Nat) : Bool := (List.range M).all fun k => decide (imb l ds fs s ((k : Int) + 1) = 0)
theorem bal_yes {l : List Pip} {ds fs : List Int} {s : Int} {M : Nat} (h : ∀ k, k < M → imb l ds fs s ((k : Int) + 1) = 0) : bal l ds fs s M = true := by
  simp only [bal, List.all_eq_true, List.mem_range, decide_eq_true_eq]
  exact h
theorem bal_no {l : List Pip} {ds fs : List Int} {s : Int} {M k : Nat} (hk : k < M) (h : ¬ imb l ds fs s ((k : Int) + 1) = 0) : bal l ds fs s M = false := by
  cases e : bal l ds fs s M
  · rfl
  · simp only [bal, List.all_eq_true, List.mem_range, decide_eq_true_eq] at e
    exact absurd (e k hk) h
/-- What IsBalanced returns. -/
def balR (N : Int) (l : List Pip) (s : Int) (ds fs : List Int) : Bool × Bool := if asks N l s ds fs = true then (bal l ds fs s N.toNat, true) else (false, false)

set_option maxRecDepth 100000 in
set_option maxHeartbeats 2000000 in
theorem s_l8Balanced (M : Nat) (s : Int) (a p q : Option Addr) (r c m d e0 : Nat) (l : List Pip) (ds fs : List Int) (w : World) (h : QAt w a r l) (h' : IntsAt w p m ds) (h'' : IntsAt w q r fs) (hg : goodNet M l = true) (hd : goodDem M ds = true) (hf : goodFl r fs = true) :
    Calls Try.prog 83 #[.agg #[.int .i64 M, .slice a r c], .int .i64 s, .slice p m d, .slice q r e0] w fun e w' => e = .returned (.bool (bal l ds fs s M)) ∧ Below w.heap.size w w' := by
  have hM : M ≤ 8 := by have := (goodNet_get hg).1; omega
  have H := hid h
  have H' := hid h'
  have H'' := hid h''
  have G1 := hid hg
  have G3 := hid hd
  have G4 := hid hf
  clear h h' h'' hg hd hf
  have HX := hid (show Below w.heap.size w (w.alloc (.cells #[.int .i64 M, .slice a r c] 31)) ∧ (w.alloc (.cells #[.int .i64 M, .slice a r c] 31)).cell? ⟨w.heap.size, 0, none⟩ = some (.int .i64 M) ∧ (w.alloc (.cells #[.int .i64 M, .slice a r c] 31)).cell? ⟨w.heap.size, 1, none⟩ = some (.slice a r c) from ⟨(Below.refl _ _).alloc (Nat.le_refl _) _, cell_of_row _ _ 0 _ _ (0, 0) (heap_alloc_new _ _), cell_of_row _ _ 1 _ _ (0, 0) (heap_alloc_new _ _)⟩)
  go_enter Try.func83, Try.ntmps83
  go_wp2
  go_loopg [9] M (fun g i wr => ∃ k : Nat, k ≤ M ∧ g = M - k ∧ i = .int .i64 ((k : Int) + 1) ∧ Hid (Below w.heap.size w wr ∧ wr.cell? ⟨w.heap.size, 0, none⟩ = some (.int .i64 M) ∧ wr.cell? ⟨w.heap.size, 1, none⟩ = some (.slice a r c)) ∧ Hid (∀ j, j < k → imb l ds fs s ((j : Int) + 1) = 0))
  case atStart => exact ⟨0, Nat.zero_le _, rfl, rfl, HX, hid (fun j hj => absurd hj (by omega))⟩
  case round =>
    obtain ⟨k, hk, rfl, rfl, hB, hh⟩ := hrel
    obtain ⟨-, n0, n1⟩ := hB.out
    have hz0 : w.heap.size < wr.heap.size := World.block_lt_of_cell? wr _ n0
    by_cases hlt : k < M
    · go_wp2_with fail
      refine (s_l8Imbalance M s ((k : Int) + 1) _ _ _ _ _ _ _ _ l ds fs _ (H.out.below hB.out.1) (H'.out.below hB.out.1) (H''.out.below hB.out.1) G1.out G3.out G4.out (by omega)).mono ?_
      rintro e w2 ⟨rfl, hb2⟩
      have HC := hid (show Below w.heap.size w w2 ∧ w2.cell? ⟨w.heap.size, 0, none⟩ = some (.int .i64 M) ∧ w2.cell? ⟨w.heap.size, 1, none⟩ = _ from ⟨bstep hB.out.1 hb2, ((bcell hb2).1 _ _ hz0).trans n0, ((bcell hb2).1 _ _ hz0).trans n1⟩)
      clear n0 n1 hb2 hz0
      by_cases hi : imb l ds fs s ((k : Int) + 1) = 0
      · have hi' : (imb l ds fs s ((k : Int) + 1) != 0) = false := by simp [hi]
        have HI := hid hi
        clear hi
        go_wp2
        go_roundg (M - (k + 1))
        case rel =>
          refine ⟨k + 1, by omega, rfl, by go_num, HC, hid (fun j hj => ?_)⟩
          by_cases e : j = k
          · subst e; exact HI.out
          · exact hh.out j (by omega)
        case measure => omega
      · have hi' : (imb l ds fs s ((k : Int) + 1) != 0) = true := by simp [hi]
        have E := hid (show bal l ds fs s M = false from bal_no hlt hi)
        clear hi
        go_wp2
        go_ret
        rw [E.out]
        exact ⟨rfl, HC.out.1⟩
    · obtain rfl : k = M := by omega
      have E := hid (show bal l ds fs s k = true from bal_yes hh.out)
      go_wp2
      go_ret
      rw [E.out]
      exact ⟨rfl, hB.out.1⟩

set_option maxRecDepth 100000 in
set_option maxHeartbeats 2000000 in
theorem i_IsBalanced (N s : Int) (a p q : Option Addr) (n c m d r e0 : Nat) (l : List Pip) (ds fs : List Int) (w : World) (h : QAt w a n l) (h' : IntsAt w p m ds) (h'' : IntsAt w q r fs) (hn : n ≤ 1048576) (hm : m ≤ 1048576) (hr : r ≤ 1048576) (y : Bool) (z : Bool) (hR : balR N l s ds fs = (y, z)) :
    Calls Try.prog 37 #[.agg #[.int .i64 N, .slice a n c], .int .i64 s, .slice p m d, .slice q r e0] w fun e w' => e = .returned (.tuple #[.bool y, .bool z]) ∧ Below w.heap.size w w' := by
  have hl := h.1
  have H := hid h
  have H' := hid h'
  have H'' := hid h''
  clear h h' h''
  cases h1 : asks N l s ds fs
  · have H1 := hid h1
    have e1 : balR N l s ds fs = (false, false) := by simp [balR, h1]
    rw [e1] at hR
    cases hR
    clear h1 hl e1
    go_enter Try.func37, Try.ntmps37
    go_wp2_with fail
    refine (i_canFlow N s _ _ _ _ _ _ _ _ _ l ds fs _ (H.out.below (by go_grown)) (H'.out.below (by go_grown)) (H''.out.below (by go_grown)) hn hm (by omega)).mono ?_
    rintro e w1 ⟨rfl, hb1⟩
    rw [H1.out]
    obtain ⟨hc_w1, hf_w1⟩ := bcell hb1
    have hz_w1_0 : w.heap.size < w1.heap.size := by have := hb1.size; simp only [World.size_alloc] at this; omega
    have HB1 := hid (bstep (by go_grown) hb1 : Below w.heap.size w w1)
    go_wp2
    go_ret2
    exact ⟨rfl, HB1.out⟩
  · have H1 := hid h1
    obtain ⟨g1, g2, g3, g4⟩ := asks_iff h1
    rw [hl] at g4
    have hrn : r = n := by have := (goodFl_iff.1 g4).1; have := H''.out.1; omega
    subst hrn
    have hN := (goodNet_get g1).1
    obtain ⟨M, rfl⟩ : ∃ M : Nat, N = M := ⟨N.toNat, by omega⟩
    have G1 := hid g1
    have G3 := hid g3
    have G4 := hid g4
    have e1 : balR M l s ds fs = (bal l ds fs s M, true) := by simp [balR, h1]
    rw [e1] at hR
    cases hR
    have hM : M ≤ 8 := by omega
    clear h1 hl e1 g1 g2 g3 g4 hN
    go_enter Try.func37, Try.ntmps37
    go_wp2_with fail
    refine (i_canFlow M s _ _ _ _ _ _ _ _ _ l ds fs _ (H.out.below (by go_grown)) (H'.out.below (by go_grown)) (H''.out.below (by go_grown)) hn hm (by omega)).mono ?_
    rintro e w1 ⟨rfl, hb1⟩
    rw [H1.out]
    have n0 : w1.cell? ⟨w.heap.size, 0, none⟩ = some (.int .i64 M) := by rw [(bcell hb1).1 _ _ (by simp)]; exact cell_of_row _ _ 0 _ _ (0, 0) (heap_alloc_new _ _)
    have n1 := ((bcell hb1).1 w.heap.size 1 (by simp)).trans (cell_of_row _ _ 1 _ _ (0, 0) (heap_alloc_new _ _))
    simp only [List.getElem?_toArray, List.getElem?_cons_succ, List.getElem?_cons_zero] at n1
    have HX := hid (show Below w.heap.size w w1 ∧ w1.cell? ⟨w.heap.size, 0, none⟩ = some (.int .i64 M) ∧ w1.cell? ⟨w.heap.size, 1, none⟩ = some (.slice a r c) from ⟨bstep (by go_grown) hb1, n0, n1⟩)
    clear hb1
    go_wp2
    clear n0 n1
    go_loopg [10] M (fun g i wr => ∃ k : Nat, k ≤ M ∧ g = M - k ∧ i = .int .i64 ((k : Int) + 1) ∧ Hid (Below w.heap.size w wr ∧ wr.cell? ⟨w.heap.size, 0, none⟩ = some (.int .i64 M) ∧ wr.cell? ⟨w.heap.size, 1, none⟩ = some (.slice a r c)) ∧ Hid (∀ j, j < k → imb l ds fs s ((j : Int) + 1) = 0))
    case atStart => exact ⟨0, Nat.zero_le _, rfl, rfl, HX, hid (fun j hj => absurd hj (by omega))⟩
    case round =>
      obtain ⟨k, hk, rfl, rfl, hB, hh⟩ := hrel
      obtain ⟨-, n0, n1⟩ := hB.out
      have hz0 : w.heap.size < wr.heap.size := World.block_lt_of_cell? wr _ n0
      by_cases hlt : k < M
      · go_wp2_with fail
        refine (i_imbalanceAt M s ((k : Int) + 1) _ _ _ _ _ _ _ _ l ds fs _ (H.out.below hB.out.1) (H'.out.below hB.out.1) (H''.out.below hB.out.1) G1.out G3.out G4.out (by omega)).mono ?_
        rintro e w2 ⟨rfl, hb2⟩
        have HC := hid (show Below w.heap.size w w2 ∧ w2.cell? ⟨w.heap.size, 0, none⟩ = some (.int .i64 M) ∧ w2.cell? ⟨w.heap.size, 1, none⟩ = _ from ⟨bstep hB.out.1 hb2, ((bcell hb2).1 _ _ hz0).trans n0, ((bcell hb2).1 _ _ hz0).trans n1⟩)
        clear n0 n1 hb2 hz0
        by_cases hi : imb l ds fs s ((k : Int) + 1) = 0
        · have hi' : (imb l ds fs s ((k : Int) + 1) != 0) = false := by simp [hi]
          have HI := hid hi
          clear hi
          go_wp2
          go_roundg (M - (k + 1))
          case rel =>
            refine ⟨k + 1, by omega, rfl, by go_num, HC, hid (fun j hj => ?_)⟩
            by_cases e : j = k
            · subst e; exact HI.out
            · exact hh.out j (by omega)
          case measure => omega
        · have hi' : (imb l ds fs s ((k : Int) + 1) != 0) = true := by simp [hi]
          have E := hid (show bal l ds fs s M = false from bal_no hlt hi)
          clear hi
          go_wp2
          go_ret2
          rw [E.out]
          exact ⟨rfl, HC.out.1⟩
      · obtain rfl : k = M := by omega
        have E := hid (show bal l ds fs s k = true from bal_yes hh.out)
        go_wp2
        go_ret2
        rw [E.out]
        exact ⟨rfl, hB.out.1⟩
set_option maxRecDepth 100000 in
set_option maxHeartbeats 2000000 in
theorem s_IsBalanced (N s : Int) (a p q : Option Addr) (n c m d r e0 : Nat) (l : List Pip) (ds fs : List Int) (w : World) (h : QAt w a n l) (h' : IntsAt w p m ds) (h'' : IntsAt w q r fs) (hn : n ≤ 1048576) (hm : m ≤ 1048576) (hr : r ≤ 1048576) (y : Bool) (z : Bool) (hR : balR N l s ds fs = (y, z)) :
    Calls Try.prog 36 #[.agg #[.int .i64 N, .slice a n c], .int .i64 s, .slice p m d, .slice q r e0] w fun e w' => e = .returned (.tuple #[.bool y, .bool z]) ∧ Below w.heap.size w w' := by
  have hl := h.1
  have H := hid h
  have H' := hid h'
  have H'' := hid h''
  clear h h' h''
  cases h1 : asks N l s ds fs
  · have H1 := hid h1
    have e1 : balR N l s ds fs = (false, false) := by simp [balR, h1]
    rw [e1] at hR
    cases hR
    clear h1 hl e1
    go_enter Try.func36, Try.ntmps36
    go_wp2_with fail
    refine (s_l8Asked N s _ _ _ _ _ _ _ _ _ l ds fs _ (H.out.below (by go_grown)) (H'.out.below (by go_grown)) (H''.out.below (by go_grown)) hn hm (by omega)).mono ?_
    rintro e w1 ⟨rfl, hb1⟩
    rw [H1.out]
    obtain ⟨hc_w1, hf_w1⟩ := bcell hb1
    have hz_w1_0 : w.heap.size < w1.heap.size := by have := hb1.size; simp only [World.size_alloc] at this; omega
    have HB1 := hid (bstep (by go_grown) hb1 : Below w.heap.size w w1)
    go_wp2
    go_ret2
    exact ⟨rfl, HB1.out⟩
  · have H1 := hid h1
    obtain ⟨g1, g2, g3, g4⟩ := asks_iff h1
    rw [hl] at g4
    have hrn : r = n := by have := (goodFl_iff.1 g4).1; have := H''.out.1; omega
    subst hrn
    have hN := (goodNet_get g1).1
    obtain ⟨M, rfl⟩ : ∃ M : Nat, N = M := ⟨N.toNat, by omega⟩
    have G1 := hid g1
    have G3 := hid g3
    have G4 := hid g4
    have e1 : balR M l s ds fs = (bal l ds fs s M, true) := by simp [balR, h1]
    rw [e1] at hR
    cases hR
    have hM : M ≤ 8 := by omega
    clear h1 hl e1 g1 g2 g3 g4 hN
    go_enter Try.func36, Try.ntmps36
    go_wp2_with fail
    refine (s_l8Asked M s _ _ _ _ _ _ _ _ _ l ds fs _ (H.out.below (by go_grown)) (H'.out.below (by go_grown)) (H''.out.below (by go_grown)) hn hm (by omega)).mono ?_
    rintro e w1 ⟨rfl, hb1⟩
    rw [H1.out]
    obtain ⟨hc_w1, hf_w1⟩ := bcell hb1
    have hz_w1_0 : w.heap.size < w1.heap.size := by have := hb1.size; simp only [World.size_alloc] at this; omega
    have HB1 := hid (bstep (by go_grown) hb1 : Below w.heap.size w w1)
    go_wp2_with fail
    refine (s_l8Balanced M s _ _ _ _ _ _ _ _ l ds fs _ (H.out.below HB1.out) (H'.out.below HB1.out) (H''.out.below HB1.out) G1.out G3.out G4.out).mono ?_
    rintro e w2 ⟨rfl, hb2⟩
    go_wp2
    go_ret2
    exact ⟨rfl, bstep HB1.out hb2⟩

end Go.Proofs.Ytheaagbffphdmaa
