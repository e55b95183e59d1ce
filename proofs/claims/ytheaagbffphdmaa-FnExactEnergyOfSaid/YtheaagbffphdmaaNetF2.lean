/-
  Networks: EnergyOf.
-/
import Derived.Test.YtheaagbffphdmaaNetF
set_option linter.unusedVariables false
set_option linter.unusedSimpArgs false
namespace Go.Proofs.Ytheaagbffphdmaa
open Go.RowKit

theorem energyR_no {N : Int} {l : List Pip} {fs : List Int} (h : goodNet N l = false ∨ goodFl l.length fs = false ∨ slow fs = false) : energyR N l fs = (0, false) := by
  unfold energyR
  rw [if_neg]
  rintro ⟨h1, h2, h3⟩
  rcases h with h | h | h
  · rw [h1] at h; cases h
  · rw [h2] at h; cases h
  · rw [h3] at h; cases h

theorem i_EnergyOf (N : Int) (a b : Option Addr) (n c m d : Nat) (l : List Pip) (fs : List Int) (w : World) (h : QAt w a n l) (h' : IntsAt w b m fs) (hn : n ≤ 1048576) (hm : m ≤ 1048576) (x : Int) (y : Bool) (hR : energyR N l fs = (x, y)) :
    Calls Try.prog 27 #[.agg #[.int .i64 N, .slice a n c], .slice b m d] w fun e w' => e = .returned (.tuple #[.int .i64 x, .bool y]) ∧ Below w.heap.size w w' := by
  have hl := h.1
  have H := hid h
  have H' := hid h'
  clear h h'
  by_cases h12 : (goodNet N l && goodFl n fs) = true
  · have HF := hid h12
    have h2 := ((Bool.and_eq_true _ _).mp h12)
    have hmn : m = n := by have := (goodFl_iff.1 h2.2).1; have := H'.out.1; omega
    subst hmn
    have HB8 := hid (goodFl_iff.1 h2.2).2
    cases h3 : slow fs
    · have H3 : Hid ((fs.any fun x => !inR x (-2000) 2000) = true) := hid (by simpa [slow] using h3)
      rw [energyR_no (.inr (.inr h3))] at hR
      cases hR
      clear h12 h2 h3 hl
      go_enter Try.func27, Try.ntmps27
      go_wp2_with fail
      refine (i_isFlowing N _ _ _ _ _ _ l fs _ (H.out.below (by go_grown)) (H'.out.below (by go_grown)) (by omega) (by omega)).mono ?_
      rintro e w1 ⟨rfl, hb1⟩
      rw [HF.out]
      have HB1 := hid (bstep (by go_grown) hb1 : Below w.heap.size w w1)
      go_wp2_with fail
      refine (f_ContainsFunc 69 #[] (fun x => !inR x (-2000) 2000) enters_EnergyOf b m d fs _ (H'.out.below HB1.out) (by omega) (fun x w' hx _ => i_EnergyOf1 x w' (HB8.out x hx))).mono ?_
      rintro e w2 ⟨rfl, hb2⟩
      rw [H3.out]
      go_wp2
      go_ret2
      exact ⟨rfl, bstep HB1.out hb2⟩
    · have H3 : Hid ((fs.any fun x => !inR x (-2000) 2000) = false) := hid (by simpa [slow] using h3)
      have HG := hid h2.1
      have HS := hid h3
      have e0 : energyR N l fs = (enrg l fs m, true) := by
        unfold energyR
        rw [if_pos ⟨h2.1, by rw [hl]; exact h2.2, h3⟩, hl]
      rw [e0] at hR
      cases hR
      clear h12 h2 h3 hl e0
      go_enter Try.func27, Try.ntmps27
      go_wp2_with fail
      refine (i_isFlowing N _ _ _ _ _ _ l fs _ (H.out.below (by go_grown)) (H'.out.below (by go_grown)) (by omega) (by omega)).mono ?_
      rintro e w1 ⟨rfl, hb1⟩
      rw [HF.out]
      obtain ⟨hc_w1, hf_w1⟩ := bcell hb1
      have hz_w1_0 : w.heap.size < w1.heap.size := by have := hb1.size; simp only [World.size_alloc] at this; omega
      have HB1 := hid (bstep (by go_grown) hb1 : Below w.heap.size w w1)
      go_wp2_with fail
      refine (f_ContainsFunc 69 #[] (fun x => !inR x (-2000) 2000) enters_EnergyOf b m d fs _ (H'.out.below HB1.out) (by omega) (fun x w' hx _ => i_EnergyOf1 x w' (HB8.out x hx))).mono ?_
      rintro e w2 ⟨rfl, hb2⟩
      rw [H3.out]
      obtain ⟨hc_w2, hf_w2⟩ := bcell hb2
      have hz_w2_0 : w.heap.size < w2.heap.size := by have := hb2.size; omega
      have HB2 := hid (bstep HB1.out hb2)
      go_wp2_with fail
      refine (i_energyOf N _ _ m _ _ l fs _ (H.out.below HB2.out) (H'.out.below HB2.out) HG.out HS.out).mono ?_
      rintro e w3 ⟨rfl, hb3⟩
      go_wp2
      go_ret2
      exact ⟨rfl, bstep HB2.out hb3⟩
  · have HF := hid (show (goodNet N l && goodFl n fs) = false by simpa using h12)
    have e0 : energyR N l fs = (0, false) := by
      apply energyR_no
      cases h1 : goodNet N l
      · exact .inl rfl
      · have := HF.out; rw [h1] at this; rw [hl]; exact .inr (.inl this)
    rw [e0] at hR
    cases hR
    clear h12 hl e0
    go_enter Try.func27, Try.ntmps27
    go_wp2_with fail
    refine (i_isFlowing N _ _ _ _ _ _ l fs _ (H.out.below (by go_grown)) (H'.out.below (by go_grown)) (by omega) (by omega)).mono ?_
    rintro e w1 ⟨rfl, hb1⟩
    rw [HF.out]
    go_wp2
    go_ret2
    exact ⟨rfl, bstep (by go_grown) hb1⟩

set_option maxHeartbeats 1000000 in
theorem s_EnergyOf (N : Int) (a b : Option Addr) (n c m d : Nat) (l : List Pip) (fs : List Int) (w : World) (h : QAt w a n l) (h' : IntsAt w b m fs) (hn : n ≤ 1048576) (hm : m ≤ 1048576) (x : Int) (y : Bool) (hR : energyR N l fs = (x, y)) :
    Calls Try.prog 26 #[.agg #[.int .i64 N, .slice a n c], .slice b m d] w fun e w' => e = .returned (.tuple #[.int .i64 x, .bool y]) ∧ Below w.heap.size w w' := by
  have hl := h.1
  have H := hid h
  have H' := hid h'
  clear h h'
  cases h1 : goodNet N l
  · have HG := hid h1
    rw [energyR_no (.inl h1)] at hR
    cases hR
    clear h1 hl
    go_enter Try.func26, Try.ntmps26
    go_wp2_with fail
    refine (s_l2Good N _ _ _ l _ (H.out.below (by go_grown)) (by omega)).mono ?_
    rintro e w1 ⟨rfl, hb1⟩
    rw [HG.out]
    obtain ⟨hc_w1, hf_w1⟩ := bcell hb1
    have hz_w1_0 : w.heap.size < w1.heap.size := by have := hb1.size; simp only [World.size_alloc] at this; omega
    have HB1 := hid (bstep (by go_grown) hb1 : Below w.heap.size w w1)
    go_wp2
    go_ret2
    exact ⟨rfl, HB1.out⟩
  · cases h2 : goodFl n fs
    · have HG := hid h1
      have HD := hid h2
      rw [energyR_no (.inr (.inl (by rw [hl]; exact h2)))] at hR
      cases hR
      clear h1 h2 hl
      go_enter Try.func26, Try.ntmps26
      go_wp2_with fail
      refine (s_l2Good N _ _ _ l _ (H.out.below (by go_grown)) (by omega)).mono ?_
      rintro e w1 ⟨rfl, hb1⟩
      rw [HG.out]
      obtain ⟨hc_w1, hf_w1⟩ := bcell hb1
      have hz_w1_0 : w.heap.size < w1.heap.size := by have := hb1.size; simp only [World.size_alloc] at this; omega
      have HB1 := hid (bstep (by go_grown) hb1 : Below w.heap.size w w1)
      go_wp2_with fail
      refine (s_l8Flows N _ _ n _ _ _ fs _ (H'.out.below HB1.out) hm).mono ?_
      rintro e w2 ⟨rfl, hb2⟩
      rw [HD.out]
      go_wp2
      go_ret2
      exact ⟨rfl, bstep HB1.out hb2⟩
    · have hmn : m = n := by have := (goodFl_iff.1 h2).1; have := H'.out.1; omega
      subst hmn
      have HG := hid h1
      have HD := hid h2
      have HL := hid hl
      have HL' := hid H'.out.1
      have HR := hid hR
      clear h1 h2 hl hR
      go_enter Try.func26, Try.ntmps26
      go_wp2_with fail
      refine (s_l2Good N _ _ _ l _ (H.out.below (by go_grown)) (by omega)).mono ?_
      rintro e w1 ⟨rfl, hb1⟩
      rw [HG.out]
      obtain ⟨hc_w1, hf_w1⟩ := bcell hb1
      have hz_w1_0 : w.heap.size < w1.heap.size := by have := hb1.size; simp only [World.size_alloc] at this; omega
      have HB1 := hid (bstep (by go_grown) hb1 : Below w.heap.size w w1)
      go_wp2_with fail
      refine (s_l8Flows N _ _ m _ _ _ fs _ (H'.out.below HB1.out) hm).mono ?_
      rintro e w2 ⟨rfl, hb2⟩
      rw [HD.out]
      obtain ⟨hc_w2, hf_w2⟩ := bcell hb2
      have hz_w2_0 : w.heap.size < w2.heap.size := by have := hb2.size; omega
      have HB2 := hid (bstep HB1.out hb2)
      have n0 : w2.cell? ⟨w.heap.size, 0, none⟩ = some (.int .i64 N) := by rw [hc_w2 _ _ hz_w1_0, hc_w1 _ _ (by simp)]; exact cell_of_row _ _ 0 _ _ (0, 0) (heap_alloc_new _ _)
      have n1 : w2.cell? ⟨w.heap.size, 1, none⟩ = some (.slice a m c) := by rw [hc_w2 _ _ hz_w1_0, hc_w1 _ _ (by simp)]; exact cell_of_row _ _ 1 _ _ (0, 0) (heap_alloc_new _ _)
      clear hc_w1 hf_w1 hc_w2 hf_w2 hb1 hb2
      go_wp2
      go_loopg [6] m (fun g i wr => ∃ k : Nat, k ≤ m ∧ g = m - k ∧ i = .int .i64 k ∧ w2 = wr ∧ Hid (∀ x ∈ fs.take k, -2000 ≤ x ∧ x ≤ 2000))
      case atStart => exact ⟨0, Nat.zero_le _, rfl, rfl, rfl, hid (fun x hx => by simp at hx)⟩
      case round =>
        obtain ⟨k, hk, rfl, rfl, rfl, hh⟩ := hrel
        by_cases hlt : k < m
        · obtain ⟨b1, off1, rfl, hbw1, hcell⟩ := (H'.out.below HB2.out).2 k hlt
          cases hx : inR (fs[k]?.getD 0) (-2000) 2000
          · have HX := hid hx
            have hs : slow fs = false := by
              cases e : slow fs
              · rfl
              · have := slow_iff.1 e _ (getD_mem' (k := k) (by have := HL'.out; omega))
                rw [inR_iff.2 this] at hx
                cases hx
            have hR := HR.out
            rw [energyR_no (.inr (.inr hs))] at hR
            cases hR
            clear hx hs
            go_wp2_with fail
            refine (s_l1In _ _ _ _).mono ?_
            rintro e _ ⟨rfl, rfl⟩
            rw [HX.out]
            go_wp2
            go_ret2
            exact ⟨rfl, HB2.out⟩
          · have HX := hid hx
            have hx2 := inR_iff.1 hx
            clear hx
            go_wp2_with fail
            refine (s_l1In _ _ _ _).mono ?_
            rintro e _ ⟨rfl, rfl⟩
            rw [HX.out]
            go_wp2
            go_roundg (m - (k + 1))
            case rel =>
              refine ⟨k + 1, by omega, rfl, by go_num, rfl, hid ?_⟩
              intro x hx
              rw [take_succ' fs k (by have := HL'.out; omega), List.mem_append, List.mem_singleton] at hx
              rcases hx with hx | rfl
              · exact hh.out x hx
              · exact hx2
            case measure => omega
        · obtain rfl : m = k := by omega
          have hall : fs.take m = fs := List.take_of_length_le (by have := HL'.out; omega)
          have hs : slow fs = true := slow_iff.2 (hall ▸ hh.out)
          have HS := hid hs
          have hR := HR.out
          have e0 : energyR N l fs = (enrg l fs m, true) := by
            unfold energyR
            rw [if_pos ⟨HG.out, by rw [HL.out]; exact HD.out, hs⟩, HL.out]
          rw [e0] at hR
          cases hR
          clear hall hs e0
          go_wp2_with fail
          refine (s_l9Energy N _ _ m _ _ l fs _ (H.out.below HB2.out) (H'.out.below HB2.out) HG.out HS.out).mono ?_
          rintro e w3 ⟨rfl, hb3⟩
          go_wp2
          go_ret2
          exact ⟨rfl, bstep HB2.out hb3⟩

end Go.Proofs.Ytheaagbffphdmaa
