/-
  Networks: the pipe with the greatest number.
-/
import Derived.Test.YtheaagbffphdmaaNetL
set_option linter.unusedVariables false
set_option linter.unusedSimpArgs false
namespace Go.Proofs.Ytheaagbffphdmaa
open Go.RowKit

/-- The Id of the pipe with the greatest number among the first ones, and the number. -/
def gp (l : List Pip) (g : Nat → Int) : Nat → Int × Int
  | 0 => (0, -1)
  | k + 1 => if (gp l g k).2 < g k then ((pp l k).1, g k) else gp l g k
theorem gp_yes {l : List Pip} {g : Nat → Int} {k : Nat} (h : (gp l g k).2 < g k) : gp l g (k + 1) = ((pp l k).1, g k) := by simp [gp, h]
theorem gp_no {l : List Pip} {g : Nat → Int} {k : Nat} (h : ¬ (gp l g k).2 < g k) : gp l g (k + 1) = gp l g k := by simp [gp, h]
/-- The index of the greatest number among the first ones. -/
def bi (g : Nat → Int) : Nat → Nat
  | 0 => 0
  | k + 1 => if g (bi g k) < g k then k else bi g k
theorem bi_lt (g : Nat → Int) : ∀ k, 1 ≤ k → bi g k < k
  | 0, h => by omega
  | k + 1, _ => by
    unfold bi
    split
    · omega
    · by_cases h0 : k = 0
      · subst h0; simp [bi]
      · have := bi_lt g k (by omega); omega
theorem gp_bi (l : List Pip) (g : Nat → Int) (h0 : ∀ k, 0 ≤ g k) : ∀ k, 1 ≤ k → gp l g k = ((pp l (bi g k)).1, g (bi g k))
  | 0, h => by omega
  | k + 1, _ => by
    by_cases hk : k = 0
    · subst hk
      have := h0 0
      rw [gp_yes (by simp only [gp]; omega)]
      simp [bi]
    · have ih := gp_bi l g h0 k (by omega)
      by_cases hlt : g (bi g k) < g k
      · rw [gp_yes (by rw [ih]; exact hlt)]
        simp [bi, hlt]
      · rw [gp_no (by rw [ih]; exact hlt), ih]
        simp [bi, hlt]

set_option maxHeartbeats 2000000 in
theorem i_greatestPipe (F : Nat) (cs : Array Value) (v : Nat → Int) (hF : enters F) (N : Int) (a : Option Addr) (n c : Nat) (l : List Pip) (w : World) (h : QAt w a n l) (hn : n ≤ 1048576) (hv : ∀ k, k < n → -1152921504606846976 ≤ v k ∧ v k ≤ 1152921504606846976)
    (HH : ∀ (k : Nat) w', k < n → Below w.heap.size w w' → Calls Try.prog F (#[.int .i64 k] ++ cs) w' fun e w'' => e = .returned (.int .i64 (v k)) ∧ Below w'.heap.size w' w'') :
    Calls Try.prog 64 #[.agg #[.int .i64 N, .slice a n c], .func (.func F) #[] cs] w fun e w' => e = .returned (.tuple #[.int .i64 (gp l (fun k => max (v k) (-(v k))) n).1, .int .i64 (gp l (fun k => max (v k) (-(v k))) n).2]) ∧ Below w.heap.size w w' := by
  unfold enters at hF
  have H := hid h
  have HC := hid HH
  have HV := hid hv
  clear h HH hv
  go_enter Try.func64, Try.ntmps64
  go_wp2
  go_loopg [6, 7, 14] n (fun g t6 t7 i wr => ∃ k : Nat, k ≤ n ∧ g = n - k ∧ i = .int .i64 k ∧ t6 = .int .i64 (gp l (fun k => max (v k) (-(v k))) k).1 ∧ t7 = .int .i64 (gp l (fun k => max (v k) (-(v k))) k).2 ∧ Hid (Below w.heap.size w wr))
  case atStart => exact ⟨0, Nat.zero_le _, rfl, rfl, rfl, rfl, hid (by go_grown)⟩
  case round =>
    obtain ⟨k, hk, rfl, rfl, rfl, rfl, hB⟩ := hrel
    by_cases hlt : k < n
    · obtain ⟨b0, off0, rfl, hbw, x0, x1, x2, x3⟩ := QAt.get (H.out.below hB.out) k hlt
      have hvk := HV.out k hlt
      have hfun := hid (fun w' hb => HC.out k w' hlt hb)
      go_wp2_with fail
      refine (hfun.out _ (bstep hB.out (by go_grown))).mono ?_
      rintro e w1 ⟨rfl, hb1⟩
      have n0 : w1.cell? ⟨wr.heap.size, 0, none⟩ = some (.int .i64 (pp l k).1) := by rw [(bcell hb1).1 _ _ (by simp)]; exact cell_of_row _ _ 0 _ _ (0, 0) (heap_alloc_new _ _)
      have hz1 : wr.heap.size < w1.heap.size := World.block_lt_of_cell? w1 _ n0
      have HB1 := hid (bstep hB.out (bstep (by go_grown) hb1) : Below w.heap.size w w1)
      clear hb1 x0 x1 x2 x3
      go_wp2_with fail
      refine (i_absOf _ _ (by omega)).mono ?_
      rintro e _ ⟨rfl, rfl⟩
      by_cases hgt : (gp l (fun k => max (v k) (-(v k))) k).2 < max (v k) (-(v k))
      · have E := hid (gp_yes (l := l) (g := fun k => max (v k) (-(v k))) hgt)
        go_wp2
        go_roundg (n - (k + 1))
        case rel => exact ⟨k + 1, by omega, rfl, by go_num, by rw [E.out], by rw [E.out], HB1⟩
        case measure => omega
      · have E := hid (gp_no (l := l) (g := fun k => max (v k) (-(v k))) hgt)
        go_wp2
        go_roundg (n - (k + 1))
        case rel => exact ⟨k + 1, by omega, rfl, by go_num, by rw [E.out], by rw [E.out], HB1⟩
        case measure => omega
    · obtain rfl : k = n := by omega
      go_wp2
      go_ret2
      exact ⟨rfl, hB.out⟩

theorem enters_HeaviestPipe : enters 65 := by intro args w; kernel_rfl
theorem i_HeaviestPipe1 (b : Option Addr) (n d g k : Nat) (fs : List Int) (w : World) (h' : IntsAt w b n fs) (hk : k < n) (h0 : w.cell? ⟨g, 0, none⟩ = some (.slice b n d)) :
    Calls Try.prog 65 #[.int .i64 k, .pointer (some ⟨g, 0, none⟩)] w fun e w' => e = .returned (.int .i64 (fs[k]?.getD 0)) ∧ Below w.heap.size w w' := by
  obtain ⟨b1, off1, rfl, hbw1, hcell⟩ := h'.2 k hk
  have hg := World.block_lt_of_cell? w _ h0
  go_enter Try.func65, Try.ntmps65
  go_wp2
  go_ret
  exact ⟨rfl, by go_grown⟩

theorem enters_SteepestPipe : enters 72 := by intro args w; kernel_rfl
theorem i_SteepestPipe1 (N : Int) (a b : Option Addr) (n c d g g2 k : Nat) (l : List Pip) (fs : List Int) (w : World) (h : QAt w a n l) (h' : IntsAt w b n fs) (hg : goodNet N l = true) (hf : goodFl n fs = true) (hk : k < n)
    (h0 : w.cell? ⟨g, 0, none⟩ = some (.int .i64 N)) (h1 : w.cell? ⟨g, 1, none⟩ = some (.slice a n c)) (h2 : w.cell? ⟨g2, 0, none⟩ = some (.slice b n d)) :
    Calls Try.prog 72 #[.int .i64 k, .pointer (some ⟨g, 0, none⟩), .pointer (some ⟨g2, 0, none⟩)] w fun e w' => e = .returned (.int .i64 (loss l fs k)) ∧ Below w.heap.size w w' := by
  have H := hid h
  have H' := hid h'
  have HG := hid hg
  have HF := hid hf
  have z1 := World.block_lt_of_cell? w _ h0
  have z2 := World.block_lt_of_cell? w _ h2
  clear h h' hg hf
  go_enter Try.func72, Try.ntmps72
  go_wp2_with fail
  refine (i_lossOf N _ _ _ _ _ k l fs _ (H.out.below (by go_grown)) (H'.out.below (by go_grown)) HG.out HF.out hk).mono ?_
  rintro e w1 ⟨rfl, hb1⟩
  go_wp2
  go_ret
  exact ⟨rfl, hb1⟩

theorem last_newG (W : World) (x : Obj) (g : Nat) (hg : g = W.heap.size) : (W.alloc x).heap[g]? = some x := by
  subst hg
  exact heap_alloc_new _ _

/-- What HeaviestPipe and SteepestPipe return. -/
def heavyR (N : Int) (l : List Pip) (fs : List Int) : Int × Int × Bool := if goodNet N l = true ∧ goodFl l.length fs = true ∧ l ≠ [] then ((gp l (fun k => max (fs[k]?.getD 0) (-(fs[k]?.getD 0))) l.length).1, (gp l (fun k => max (fs[k]?.getD 0) (-(fs[k]?.getD 0))) l.length).2, true) else (0, 0, false)
def steepR (N : Int) (l : List Pip) (fs : List Int) : Int × Int × Bool := if goodNet N l = true ∧ goodFl l.length fs = true ∧ l ≠ [] then ((gp l (fun k => max (loss l fs k) (-(loss l fs k))) l.length).1, (gp l (fun k => max (loss l fs k) (-(loss l fs k))) l.length).2, true) else (0, 0, false)

end Go.Proofs.Ytheaagbffphdmaa
