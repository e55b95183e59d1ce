/-
  Networks: ImbalanceAt.
-/
import Derived.Test.YtheaagbffphdmaaNetH
set_option linter.unusedVariables false
set_option linter.unusedSimpArgs false
namespace Go.Proofs.Ytheaagbffphdmaa
open Go.RowKit

/-- What ImbalanceAt returns. -/
def imbR (N : Int) (l : List Pip) (s : Int) (ds fs : List Int) (x : Int) : Int × Bool := if asks N l s ds fs = true ∧ inR x 1 N = true then (imb l ds fs s x, true) else (0, false)

set_option maxHeartbeats 1000000 in
theorem i_ImbalanceAt (N s x : Int) (a p q : Option Addr) (n c m d r e0 : Nat) (l : List Pip) (ds fs : List Int) (w : World) (h : QAt w a n l) (h' : IntsAt w p m ds) (h'' : IntsAt w q r fs) (hn : n ≤ 1048576) (hm : m ≤ 1048576) (hr : r ≤ 1048576) (y : Int) (z : Bool) (hR : imbR N l s ds fs x = (y, z)) :
    Calls Try.prog 35 #[.agg #[.int .i64 N, .slice a n c], .int .i64 s, .slice p m d, .slice q r e0, .int .i64 x] w fun e w' => e = .returned (.tuple #[.int .i64 y, .bool z]) ∧ Below w.heap.size w w' := by
  have hl := h.1
  have H := hid h
  have H' := hid h'
  have H'' := hid h''
  clear h h' h''
  cases h1 : asks N l s ds fs
  · have H1 := hid h1
    have e1 : imbR N l s ds fs x = (0, false) := by simp [imbR, h1]
    rw [e1] at hR
    cases hR
    clear h1 hl e1
    go_enter Try.func35, Try.ntmps35
    go_wp2_with fail
    refine (i_canFlow N s _ _ _ _ _ _ _ _ _ l ds fs _ (H.out.below (by go_grown)) (H'.out.below (by go_grown)) (H''.out.below (by go_grown)) hn hm (by omega)).mono ?_
    rintro e w1 ⟨rfl, hb1⟩
    rw [H1.out]
    obtain ⟨hc_w1, hf_w1⟩ := bcell hb1
    have hz_w1_0 : w.heap.size < w1.heap.size := by have := hb1.size; simp only [World.size_alloc] at this; omega
    have HB1 := hid (bstep (by go_grown) hb1 : Below w.heap.size w w1)
    go_wp2
    go_ret2
    exact ⟨rfl, HB1.out⟩
  · have H1 := hid h1
    obtain ⟨g1, g2, g3, g4⟩ := asks_iff h1
    rw [hl] at g4
    have hrn : r = n := by have := (goodFl_iff.1 g4).1; have := H''.out.1; omega
    subst hrn
    have G1 := hid g1
    have G3 := hid g3
    have G4 := hid g4
    cases h2 : inR x 1 N
    · have H2 : Hid ((goodNet N l && inR x 1 N) = false) := hid (by simp [h2])
      have H3 := hid h2
      have e1 : imbR N l s ds fs x = (0, false) := by simp [imbR, h2]
      rw [e1] at hR
      cases hR
      clear h1 h2 hl e1 g1 g2 g3 g4
      go_enter Try.func35, Try.ntmps35
      go_wp2_with fail
      refine (i_canFlow N s _ _ _ _ _ _ _ _ _ l ds fs _ (H.out.below (by go_grown)) (H'.out.below (by go_grown)) (H''.out.below (by go_grown)) hn hm (by omega)).mono ?_
      rintro e w1 ⟨rfl, hb1⟩
      rw [H1.out]
      obtain ⟨hc_w1, hf_w1⟩ := bcell hb1
      have hz_w1_0 : w.heap.size < w1.heap.size := by have := hb1.size; simp only [World.size_alloc] at this; omega
      have HB1 := hid (bstep (by go_grown) hb1 : Below w.heap.size w w1)
      go_wp2_with fail
      refine (i_has N x _ _ _ _).mono ?_
      rintro e w2 ⟨rfl, hb2⟩
      rw [H3.out]
      go_wp2
      go_ret2
      exact ⟨rfl, bstep HB1.out hb2⟩
    · have H2 : Hid ((goodNet N l && inR x 1 N) = true) := hid (by simp [h2, g1])
      have H3 := hid h2
      have hx := inR_iff.1 h2
      have e1 : imbR N l s ds fs x = (imb l ds fs s x, true) := by simp [imbR, h1, h2]
      rw [e1] at hR
      cases hR
      clear h1 h2 hl e1 g1 g2 g3 g4
      go_enter Try.func35, Try.ntmps35
      go_wp2_with fail
      refine (i_canFlow N s _ _ _ _ _ _ _ _ _ l ds fs _ (H.out.below (by go_grown)) (H'.out.below (by go_grown)) (H''.out.below (by go_grown)) hn hm (by omega)).mono ?_
      rintro e w1 ⟨rfl, hb1⟩
      rw [H1.out]
      obtain ⟨hc_w1, hf_w1⟩ := bcell hb1
      have hz_w1_0 : w.heap.size < w1.heap.size := by have := hb1.size; simp only [World.size_alloc] at this; omega
      have HB1 := hid (bstep (by go_grown) hb1 : Below w.heap.size w w1)
      go_wp2_with fail
      refine (i_has N x _ _ _ _).mono ?_
      rintro e w2 ⟨rfl, hb2⟩
      rw [H3.out]
      obtain ⟨hc_w2, hf_w2⟩ := bcell hb2
      have hz_w2_0 : w.heap.size < w2.heap.size := by have := hb2.size; omega
      have HB2 := hid (bstep HB1.out hb2)
      go_wp2_with fail
      refine (i_imbalanceAt N s x _ _ _ _ _ _ _ _ l ds fs _ (H.out.below HB2.out) (H'.out.below HB2.out) (H''.out.below HB2.out) G1.out G3.out G4.out hx).mono ?_
      rintro e w3 ⟨rfl, hb3⟩
      go_wp2
      go_ret2
      exact ⟨rfl, bstep HB2.out hb3⟩
set_option maxHeartbeats 1000000 in
theorem s_ImbalanceAt (N s x : Int) (a p q : Option Addr) (n c m d r e0 : Nat) (l : List Pip) (ds fs : List Int) (w : World) (h : QAt w a n l) (h' : IntsAt w p m ds) (h'' : IntsAt w q r fs) (hn : n ≤ 1048576) (hm : m ≤ 1048576) (hr : r ≤ 1048576) (y : Int) (z : Bool) (hR : imbR N l s ds fs x = (y, z)) :
    Calls Try.prog 34 #[.agg #[.int .i64 N, .slice a n c], .int .i64 s, .slice p m d, .slice q r e0, .int .i64 x] w fun e w' => e = .returned (.tuple #[.int .i64 y, .bool z]) ∧ Below w.heap.size w w' := by
  have hl := h.1
  have H := hid h
  have H' := hid h'
  have H'' := hid h''
  clear h h' h''
  cases h1 : asks N l s ds fs
  · have H1 := hid h1
    have e1 : imbR N l s ds fs x = (0, false) := by simp [imbR, h1]
    rw [e1] at hR
    cases hR
    clear h1 hl e1
    go_enter Try.func34, Try.ntmps34
    go_wp2_with fail
    refine (s_l8Asked N s _ _ _ _ _ _ _ _ _ l ds fs _ (H.out.below (by go_grown)) (H'.out.below (by go_grown)) (H''.out.below (by go_grown)) hn hm (by omega)).mono ?_
    rintro e w1 ⟨rfl, hb1⟩
    rw [H1.out]
    obtain ⟨hc_w1, hf_w1⟩ := bcell hb1
    have hz_w1_0 : w.heap.size < w1.heap.size := by have := hb1.size; simp only [World.size_alloc] at this; omega
    have HB1 := hid (bstep (by go_grown) hb1 : Below w.heap.size w w1)
    go_wp2
    go_ret2
    exact ⟨rfl, HB1.out⟩
  · have H1 := hid h1
    obtain ⟨g1, g2, g3, g4⟩ := asks_iff h1
    rw [hl] at g4
    have hrn : r = n := by have := (goodFl_iff.1 g4).1; have := H''.out.1; omega
    subst hrn
    have G1 := hid g1
    have G3 := hid g3
    have G4 := hid g4
    cases h2 : inR x 1 N
    · have H2 : Hid ((goodNet N l && inR x 1 N) = false) := hid (by simp [h2])
      have H3 := hid h2
      have e1 : imbR N l s ds fs x = (0, false) := by simp [imbR, h2]
      rw [e1] at hR
      cases hR
      clear h1 h2 hl e1 g1 g2 g3 g4
      go_enter Try.func34, Try.ntmps34
      go_wp2_with fail
      refine (s_l8Asked N s _ _ _ _ _ _ _ _ _ l ds fs _ (H.out.below (by go_grown)) (H'.out.below (by go_grown)) (H''.out.below (by go_grown)) hn hm (by omega)).mono ?_
      rintro e w1 ⟨rfl, hb1⟩
      rw [H1.out]
      obtain ⟨hc_w1, hf_w1⟩ := bcell hb1
      have hz_w1_0 : w.heap.size < w1.heap.size := by have := hb1.size; simp only [World.size_alloc] at this; omega
      have HB1 := hid (bstep (by go_grown) hb1 : Below w.heap.size w w1)
      go_wp2_with fail
      refine (s_l2Node N x _ _ _ l _ (H.out.below HB1.out) (by omega)).mono ?_
      rintro e w2 ⟨rfl, hb2⟩
      rw [H2.out]
      go_wp2
      go_ret2
      exact ⟨rfl, bstep HB1.out hb2⟩
    · have H2 : Hid ((goodNet N l && inR x 1 N) = true) := hid (by simp [h2, g1])
      have H3 := hid h2
      have hx := inR_iff.1 h2
      have e1 : imbR N l s ds fs x = (imb l ds fs s x, true) := by simp [imbR, h1, h2]
      rw [e1] at hR
      cases hR
      clear h1 h2 hl e1 g1 g2 g3 g4
      go_enter Try.func34, Try.ntmps34
      go_wp2_with fail
      refine (s_l8Asked N s _ _ _ _ _ _ _ _ _ l ds fs _ (H.out.below (by go_grown)) (H'.out.below (by go_grown)) (H''.out.below (by go_grown)) hn hm (by omega)).mono ?_
      rintro e w1 ⟨rfl, hb1⟩
      rw [H1.out]
      obtain ⟨hc_w1, hf_w1⟩ := bcell hb1
      have hz_w1_0 : w.heap.size < w1.heap.size := by have := hb1.size; simp only [World.size_alloc] at this; omega
      have HB1 := hid (bstep (by go_grown) hb1 : Below w.heap.size w w1)
      go_wp2_with fail
      refine (s_l2Node N x _ _ _ l _ (H.out.below HB1.out) (by omega)).mono ?_
      rintro e w2 ⟨rfl, hb2⟩
      rw [H2.out]
      obtain ⟨hc_w2, hf_w2⟩ := bcell hb2
      have hz_w2_0 : w.heap.size < w2.heap.size := by have := hb2.size; omega
      have HB2 := hid (bstep HB1.out hb2)
      go_wp2_with fail
      refine (s_l8Imbalance N s x _ _ _ _ _ _ _ _ l ds fs _ (H.out.below HB2.out) (H'.out.below HB2.out) (H''.out.below HB2.out) G1.out G3.out G4.out hx).mono ?_
      rintro e w3 ⟨rfl, hb3⟩
      go_wp2
      go_ret2
      exact ⟨rfl, bstep HB2.out hb3⟩

end Go.Proofs.Ytheaagbffphdmaa
