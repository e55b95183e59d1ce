/-
  TurnFlows, in the program and in the reference.
-/
import Derived.Test.YthhogblnndmenaaLoopI
import Derived.Test.YthhogblnndmenaaLoopS
import Derived.Test.YthhogblnndmenaaRingF
import Derived.Test.YthhogblnndmenaaNetL
set_option linter.unusedVariables false
set_option linter.unusedSimpArgs false
namespace Go.Proofs.Ythhogblnndmenaa
open Go.RowKit

/-- Flows turned around a loop, the first k of them. -/
def turnF (S fs : List Int) (x : Int) : Nat → List Int
  | 0 => fs
  | k + 1 => (turnF S fs x k).set k ((turnF S fs x k)[k]?.getD 0 + S[k]?.getD 0 * x)
theorem turnF_len (S fs : List Int) (x : Int) : ∀ k, (turnF S fs x k).length = fs.length
  | 0 => rfl
  | k + 1 => by rw [turnF, List.length_set, turnF_len S fs x k]
theorem turnF_rest (S fs : List Int) (x : Int) : ∀ k i : Nat, k ≤ i → (turnF S fs x k)[i]?.getD 0 = fs[i]?.getD 0
  | 0, _, _ => rfl
  | k + 1, i, h => by
    rw [turnF, List.getElem?_set_ne (by omega)]
    exact turnF_rest S fs x k i (by omega)
theorem turnF_get (S fs : List Int) (x : Int) : ∀ k i : Nat, i < k → k ≤ fs.length → (turnF S fs x k)[i]?.getD 0 = fs[i]?.getD 0 + S[i]?.getD 0 * x
  | 0, _, h, _ => by omega
  | k + 1, i, h, hk => by
    rw [turnF, set_at (by rw [turnF_len]; omega)]
    split
    · rename_i e
      subst e
      rw [turnF_rest S fs x k k (Nat.le_refl _)]
    · exact turnF_get S fs x k i (by omega) (by omega)
theorem sign_mul {s x A : Int} (hs : -1 ≤ s ∧ s ≤ 1) (hx : -A ≤ x ∧ x ≤ A) : -A ≤ s * x ∧ s * x ≤ A := by
  have h3 : s = -1 ∨ s = 0 ∨ s = 1 := by omega
  rcases h3 with h3 | h3 | h3 <;> rw [h3] <;> omega

set_option maxHeartbeats 4000000 in
theorem i_turnFlows (a b : Option Addr) (n c d : Nat) (S fs : List Int) (x : Int) (w : World) (h : IntsAt w a n S) (h' : IntsAt w b n fs) (hn : n ≤ 10) (h0 : 0 < n) (hs : ∀ i : Nat, i < n → -1 ≤ S[i]?.getD 0 ∧ S[i]?.getD 0 ≤ 1) (hf : ∀ y ∈ fs, -8000 ≤ y ∧ y ≤ 8000) (hx : -8000 ≤ x ∧ x ≤ 8000) :
    Calls Try.prog 77 #[.slice a n c, .slice b n d, .int .i64 x] w fun e w' => ∃ a' c', e = .returned (.slice a' n c') ∧ OwnI w' w.heap.size (.slice a' n c') (turnF S fs x n) ∧ Below w.heap.size w w' := by
  have H := hid h
  have H' := hid h'
  have HS := hid hs
  have HF := hid hf
  have HL := hid h'.1
  clear h h' hs hf
  go_enter Try.func77, Try.ntmps77
  go_wp2_with fail
  refine (i_copyInts _ _ _ fs _ H'.out (by omega)).mono ?_
  rintro e w1 ⟨a1, c1, rfl, ho1, hb1⟩
  obtain ⟨g1, rfl, hg1, hg2⟩ := own_some ho1 h0
  have HO1 := hid ho1
  have HB1 := hid hb1
  clear ho1 hb1
  go_wp2
  go_loopg [14] n (fun g i wr => ∃ k : Nat, k ≤ n ∧ g = n - k ∧ i = .int .i64 k ∧ Hid (OwnI wr w.heap.size (.slice (some ⟨g1, 0, none⟩) n c1) (turnF S fs x k) ∧ w1.grownBy wr (some g1)))
  case atStart => exact ⟨0, Nat.zero_le _, rfl, rfl, hid ⟨HO1.out, grown_of_below (Below.refl _ _) _⟩⟩
  case round =>
    obtain ⟨k, hk, rfl, rfl, hh⟩ := hrel
    have HBW := hid (show Below w.heap.size w wr from HB1.out.grown hh.out.2 HB1.out.size (fun k hk => by simp at hk; omega))
    by_cases hlt : k < n
    · obtain ⟨b0, off0, rfl, hbw, hcl⟩ := (H.out).2 k hlt
      have hcl2 := (HBW.out.cell (p := ⟨b0, off0 + k, none⟩) hbw).trans hcl
      have hbg : ¬ b0 = g1 := by have : b0 < w.heap.size := hbw; omega
      have hbg2 : ¬ g1 = b0 := by omega
      have hbz : b0 < wr.heap.size := World.block_lt_of_cell? wr _ hcl2
      have hoc := hh.out.1.cell (k := k) hlt
      have hof := hh.out.1.frozen (k := k)
      have hgw := (hh.out.1.lt g1 rfl).2
      have hv := turnF_rest S fs x k k (Nat.le_refl _)
      have hfq := HF.out _ (getD_mem fs k (by have := HL.out; omega))
      have hsx := sign_mul (A := 8000) (HS.out k hlt) hx
      have SS := hid (hh.out.1.set (k := k) ((turnF S fs x k)[k]?.getD 0 + S[k]?.getD 0 * x))
      have HE := hid (show turnF S fs x (k + 1) = (turnF S fs x k).set k ((turnF S fs x k)[k]?.getD 0 + S[k]?.getD 0 * x) from rfl)
      rw [← hv] at hfq
      obtain ⟨vf, hvf⟩ : ∃ vf, (turnF S fs x k)[k]?.getD 0 = vf := ⟨_, rfl⟩
      obtain ⟨vs, hvs⟩ : ∃ vs, S[k]?.getD 0 = vs := ⟨_, rfl⟩
      rw [hvf] at hoc hfq SS HE
      rw [hvs] at hcl2 hsx SS HE
      have hw1 := IntWalk.i64_in (vs * x) (by omega)
      have hw2 := IntWalk.i64_in (vf + vs * x) (by omega)
      clear hv hvf hvs hcl
      go_wp2
      go_roundg (n - (k + 1))
      case rel => exact ⟨k + 1, by omega, rfl, by go_num, hid ⟨by rw [HE.out]; exact SS.out.1, grownBy_trans hh.out.2 SS.out.2⟩⟩
      case measure => omega
    · obtain rfl : n = k := by omega
      go_wp2
      go_ret
      exact ⟨_, _, rfl, hh.out.1, HBW.out⟩

set_option maxHeartbeats 4000000 in
theorem s_l10Turn (a b : Option Addr) (n c d : Nat) (S fs : List Int) (x : Int) (w : World) (h : IntsAt w a n S) (h' : IntsAt w b n fs) (hn : n ≤ 10) (h0 : 0 < n) (hs : ∀ i : Nat, i < n → -1 ≤ S[i]?.getD 0 ∧ S[i]?.getD 0 ≤ 1) (hf : ∀ y ∈ fs, -8000 ≤ y ∧ y ≤ 8000) (hx : -8000 ≤ x ∧ x ≤ 8000) :
    Calls Try.prog 75 #[.slice a n c, .slice b n d, .int .i64 x] w fun e w' => ∃ a' c', e = .returned (.slice a' n c') ∧ OwnI w' w.heap.size (.slice a' n c') (turnF S fs x n) ∧ Below w.heap.size w w' := by
  have H := hid h
  have H' := hid h'
  have HS := hid hs
  have HF := hid hf
  have HL := hid h'.1
  clear h h' hs hf
  go_enter Try.func75, Try.ntmps75
  go_wp2_with fail
  refine (s_l1Own _ _ _ fs _ H'.out (by omega)).mono ?_
  rintro e w1 ⟨a1, c1, rfl, ho1, hb1⟩
  obtain ⟨g1, rfl, hg1, hg2⟩ := own_some ho1 h0
  have HO1 := hid ho1
  have HB1 := hid hb1
  clear ho1 hb1
  go_wp2
  go_loopg [8] n (fun g i wr => ∃ k : Nat, k ≤ n ∧ g = n - k ∧ i = .int .i64 k ∧ Hid (OwnI wr w.heap.size (.slice (some ⟨g1, 0, none⟩) n c1) (turnF S fs x k) ∧ w1.grownBy wr (some g1)))
  case atStart => exact ⟨0, Nat.zero_le _, rfl, rfl, hid ⟨HO1.out, grown_of_below (Below.refl _ _) _⟩⟩
  case round =>
    obtain ⟨k, hk, rfl, rfl, hh⟩ := hrel
    have HBW := hid (show Below w.heap.size w wr from HB1.out.grown hh.out.2 HB1.out.size (fun k hk => by simp at hk; omega))
    by_cases hlt : k < n
    · obtain ⟨b0, off0, rfl, hbw, hcl⟩ := (H.out).2 k hlt
      have hcl2 := (HBW.out.cell (p := ⟨b0, off0 + k, none⟩) hbw).trans hcl
      have hbg : ¬ b0 = g1 := by have : b0 < w.heap.size := hbw; omega
      have hbg2 : ¬ g1 = b0 := by omega
      have hbz : b0 < wr.heap.size := World.block_lt_of_cell? wr _ hcl2
      have hoc := hh.out.1.cell (k := k) hlt
      have hof := hh.out.1.frozen (k := k)
      have hgw := (hh.out.1.lt g1 rfl).2
      have hv := turnF_rest S fs x k k (Nat.le_refl _)
      have hfq := HF.out _ (getD_mem fs k (by have := HL.out; omega))
      have hsx := sign_mul (A := 8000) (HS.out k hlt) hx
      have HE := hid (show turnF S fs x (k + 1) = (turnF S fs x k).set k ((turnF S fs x k)[k]?.getD 0 + S[k]?.getD 0 * x) from rfl)
      rw [← hv] at hfq
      obtain ⟨vf, hvf⟩ : ∃ vf, (turnF S fs x k)[k]?.getD 0 = vf := ⟨_, rfl⟩
      obtain ⟨vs, hvs⟩ : ∃ vs, S[k]?.getD 0 = vs := ⟨_, rfl⟩
      rw [hvf] at hoc hfq HE
      rw [hvs] at hcl2 hsx HE
      have hw1 := IntWalk.i64_in (vs * x) (by omega)
      have hw2 := IntWalk.i64_in (vf + vs * x) (by omega)
      have SS := hid ((hh.out.1.below ((Below.refl _ _).drew : Below wr.heap.size wr wr.drew)).set (k := k) (vf + vs * x))
      clear hv hvf hvs hcl
      go_upto_region 5 with fail
      first
        | (go_region_law fail)
        | fail
      all_goals
        go_wp2
        go_roundg (n - (k + 1))
        case rel => exact ⟨k + 1, by omega, rfl, by go_num, hid ⟨by rw [HE.out]; exact SS.out.1, grownBy_trans (grownBy_trans hh.out.2 (grown_of_below ((Below.refl _ _).drew) _)) SS.out.2⟩⟩
        case measure => omega
    · obtain rfl : n = k := by omega
      go_wp2
      go_ret
      exact ⟨_, _, rfl, hh.out.1, HBW.out⟩

end Go.Proofs.Ythhogblnndmenaa
