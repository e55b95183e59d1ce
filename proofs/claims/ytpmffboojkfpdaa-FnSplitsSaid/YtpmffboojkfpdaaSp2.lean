/-
  Texts of this claim, joined: SplitP, Ints, Funcs, Range, Nums, Calm.
-/
import Derived.Test.YtpmffboojkfpdaaSp1
/-
  The greedy split of a flow (plain): unit by unit, and pipe by pipe by the leastS sums.
-/
set_option linter.unusedVariables false
set_option linter.unusedSimpArgs false
namespace Go.Proofs.Ytpmffboojkfpdaa
open Go.RowKit

/-- The pipe that takes the next unit: the first of the cheapest ones among 0 .. k. -/
def bestK (S : List Int) (G : List Nat) : Nat → Nat
  | 0 => 0
  | k + 1 => if marg (sz S (k + 1)) (qt G (k + 1)) < marg (sz S (bestK S G k)) (qt G (bestK S G k)) then k + 1 else bestK S G k
theorem bestK_le (S : List Int) (G : List Nat) : ∀ k, bestK S G k ≤ k
  | 0 => Nat.le_refl _
  | k + 1 => by
    have := bestK_le S G k
    unfold bestK
    split <;> omega
theorem bestK_least (S : List Int) (G : List Nat) : ∀ k j, j ≤ k → marg (sz S (bestK S G k)) (qt G (bestK S G k)) ≤ marg (sz S j) (qt G j) ∧ (j < bestK S G k → marg (sz S (bestK S G k)) (qt G (bestK S G k)) < marg (sz S j) (qt G j))
  | 0, j, h => by
    obtain rfl : j = 0 := by omega
    unfold bestK
    exact ⟨Int.le_refl _, fun h => by omega⟩
  | k + 1, j, h => by
    have hb := bestK_le S G k
    unfold bestK
    split
    · rename_i hlt
      by_cases e : j = k + 1
      · subst e; exact ⟨Int.le_refl _, fun h => by omega⟩
      · have := (bestK_least S G k j (by omega)).1
        exact ⟨by omega, fun _ => by omega⟩
    · rename_i hlt
      by_cases e : j = k + 1
      · subst e; exact ⟨by omega, fun h => by omega⟩
      · exact bestK_least S G k j (by omega)
/-- The greedy split of k units. -/
def greedy (S : List Int) : Nat → List Nat
  | 0 => List.replicate S.length 0
  | k + 1 => (greedy S k).set (bestK S (greedy S k) (S.length - 1)) (qt (greedy S k) (bestK S (greedy S k) (S.length - 1)) + 1)
theorem greedy_len (S : List Int) : ∀ k, (greedy S k).length = S.length
  | 0 => by simp [greedy]
  | k + 1 => by unfold greedy; rw [List.length_set]; exact greedy_len S k
theorem sum_set : ∀ (G : List Nat) (b : Nat), b < G.length → (G.set b (qt G b + 1)).sum = G.sum + 1
  | [], b, h => by simp at h
  | g :: G, 0, h => by simp [qt]; omega
  | g :: G, b + 1, h => by
    have := sum_set G b (by simpa using h)
    simp only [List.set_cons_succ, List.sum_cons]
    have e : qt (g :: G) (b + 1) = qt G b := by simp [qt]
    rw [e]
    omega
theorem greedy_sum {S : List Int} (h0 : 0 < S.length) : ∀ k, (greedy S k).sum = k
  | 0 => by simp [greedy]
  | k + 1 => by
    unfold greedy
    have hb := bestK_le S (greedy S k) (S.length - 1)
    rw [sum_set _ _ (by rw [greedy_len]; omega), greedy_sum h0 k]
theorem greedy_is {S : List Int} (h0 : 0 < S.length) (hs : ∀ s ∈ S, 1 ≤ s) : ∀ k, Greedy S (greedy S k)
  | 0 => fun i j hi hj h => by
    simp [greedy, qt, hi] at h
  | k + 1 => by
    unfold greedy
    have hb := bestK_le S (greedy S k) (S.length - 1)
    refine (greedy_is h0 hs k).more (greedy_len S k) hs (by omega) (fun j hj => ?_) (fun j hj => ?_)
    · exact (bestK_least S (greedy S k) (S.length - 1) j (by omega)).2 hj
    · exact (bestK_least S (greedy S k) (S.length - 1) j (by omega)).1
theorem qt_le_sum : ∀ (G : List Nat) (i : Nat), qt G i ≤ G.sum
  | [], i => by simp [qt]
  | g :: G, 0 => by simp [qt]
  | g :: G, i + 1 => by
    have := qt_le_sum G i
    have e : qt (g :: G) (i + 1) = qt G i := by simp [qt]
    rw [e, List.sum_cons]; omega
theorem mem_le_sum {G : List Nat} {q : Nat} (h : q ∈ G) : q ≤ G.sum := by
  obtain ⟨i, hi, rfl⟩ := List.mem_iff_getElem.1 h
  have := qt_le_sum G i
  unfold qt at this
  rw [List.getElem?_eq_getElem hi] at this
  exact this

theorem drop_S (S : List Int) (i : Nat) (h : i < S.length) : S.drop i = sz S i :: S.drop (i + 1) := by
  rw [List.drop_eq_getElem_cons h]
  unfold sz
  rw [List.getElem?_eq_getElem h]; rfl
theorem drop_G (G : List Nat) (i : Nat) (h : i < G.length) : G.drop i = qt G i :: G.drop (i + 1) := by
  rw [List.drop_eq_getElem_cons h]
  unfold qt
  rw [List.getElem?_eq_getElem h]; rfl
theorem Greedy.drop {S : List Int} {G : List Nat} (h : Greedy S G) (hl : G.length = S.length) : ∀ i, i ≤ S.length → Greedy (S.drop i) (G.drop i)
  | 0, _ => by simpa using h
  | i + 1, hi => by
    have ih := Greedy.drop h hl i (by omega)
    rw [drop_S S i (by omega), drop_G G i (by omega)] at ih
    exact ih.tail
/-- What is left for the pipes from i on. -/
def rest (G : List Nat) (i : Nat) : Nat := (G.drop i).sum
theorem rest_zero (G : List Nat) : rest G 0 = G.sum := by simp [rest]
theorem rest_succ (G : List Nat) (i : Nat) (h : i < G.length) : rest G i = qt G i + rest G (i + 1) := by
  unfold rest
  rw [drop_G G i h, List.sum_cons]
theorem rest_le (G : List Nat) (i : Nat) : rest G i ≤ G.sum := by
  have e : G.sum = (G.take i).sum + rest G i := by
    unfold rest
    rw [← List.sum_append, List.take_append_drop]
  omega
theorem greedy_at {S : List Int} {k i : Nat} (hS : 1 ≤ S.length ∧ S.length ≤ 5) (hs : ∀ s ∈ S, 1 ≤ s ∧ s ≤ 9) (hk : k ≤ 60) (hi : i < S.length) :
    cube (sz S i) (qt (greedy S k) i) + leastS (S.drop (i + 1)) (rest (greedy S k) (i + 1)) = leastS (S.drop i) (rest (greedy S k) i) ∧
    ∀ q : Nat, qt (greedy S k) i < q → q ≤ rest (greedy S k) i → cube (sz S i) q + leastS (S.drop (i + 1)) (rest (greedy S k) i - q) ≠ leastS (S.drop i) (rest (greedy S k) i) := by
  have hl := greedy_len S k
  have hG := (greedy_is (S := S) (by omega) (fun s h => (hs s h).1) k).drop hl i (by omega)
  have hsum := greedy_sum (S := S) (by omega) k
  have hr := rest_succ (greedy S k) i (by omega)
  have hq : ∀ q ∈ (greedy S k).drop i, q ≤ 60 := fun q h => by have := mem_le_sum (List.mem_of_mem_drop h); omega
  have hs2 : ∀ x ∈ S.drop i, 1 ≤ x ∧ x ≤ 9 := fun x h => hs x (List.mem_of_mem_drop h)
  have er : rest (greedy S k) i = ((greedy S k).drop i).sum := rfl
  rw [er]
  rw [drop_G _ i (by omega), drop_S S i (by omega)] at *
  have h1 := greedy_first (s := sz S i) (S := S.drop (i + 1)) (g := qt (greedy S k) i) (G := (greedy S k).drop (i + 1)) hG (by simp [hl]) hs2 (by simp; omega) hq
  have e2 : (qt (greedy S k) i :: (greedy S k).drop (i + 1)).sum - qt (greedy S k) i = rest (greedy S k) (i + 1) := by simp [rest]
  rw [e2] at h1
  exact h1
/-- As numbers of the program. -/
def liftN (G : List Nat) : List Int := G.map (fun x : Nat => (x : Int))
theorem liftN_len (G : List Nat) : (liftN G).length = G.length := by simp [liftN]
theorem liftN_get (G : List Nat) (i : Nat) : (liftN G)[i]?.getD 0 = (qt G i : Int) := by
  unfold liftN qt
  rw [List.getElem?_map]
  cases G[i]? <;> simp
theorem liftN_set (G : List Nat) (b v : Nat) : liftN (G.set b v) = (liftN G).set b (v : Int) := by simp [liftN, List.map_set]
theorem liftN_zero (n : Nat) : liftN (List.replicate n 0) = List.replicate n 0 := by simp [liftN]
theorem liftN_take (G : List Nat) (k : Nat) (hk : k < G.length) : liftN (G.take (k + 1)) = liftN (G.take k) ++ [(qt G k : Int)] := by
  unfold liftN qt
  rw [List.take_succ_eq_append_getElem hk, List.map_append, List.getElem?_eq_getElem hk]
  rfl

theorem marg_fit {s : Int} {q : Nat} (hs : 1 ≤ s ∧ s ≤ 9) (hq : q < 60) : 0 ≤ cube s (q + 1) ∧ cube s (q + 1) ≤ 1944000 ∧ 0 ≤ cube s q ∧ cube s q ≤ 1944000 := by
  have h1 : ∀ x : Nat, x ≤ 60 → 0 ≤ cube s x ∧ cube s x ≤ 1944000 := fun x hx => by
    have := costs_small [s] [x] (fun y hy => by simp at hy; subst hy; exact hs) (fun y hy => by simp at hy; subst hy; exact hx)
    simpa [costs] using this
  have a := h1 (q + 1) (by omega)
  have b := h1 q (by omega)
  rw [show (((q + 1 : Nat) : Int)) = (q : Int) + 1 by omega] at a
  exact ⟨a.1, a.2, b.1, b.2⟩
theorem least_range (S : List Int) (q : Nat) (hs : ∀ s ∈ S, 1 ≤ s) : 0 ≤ leastS S q ∧ leastS S q ≤ 1099511627776 := by
  refine ⟨?_, least_top S q⟩
  rcases least_at S q hs with h | ⟨P, h1, h2, h3⟩
  · omega
  · rw [← h3]
    clear h1 h2 h3
    induction S generalizing P with
    | nil => cases P <;> simp [costs]
    | cons s S ih =>
      cases P with
      | nil => simp [costs]
      | cons p P =>
        have := ih (fun x hx => hs x (by simp [hx])) P
        have := cube_nonneg (s := s) (q := (p : Int)) (by have := hs s (by simp); omega) (by omega)
        unfold costs
        omega

/-- What SplitFlow returns. -/
def splitF (S : List Int) (t : Int) : List Int × Bool := if (decide (1 ≤ S.length ∧ S.length ≤ 5) && S.all (fun s => decide (1 ≤ s ∧ s ≤ 9)) && decide (0 ≤ t ∧ t ≤ 60)) = true then (liftN (greedy S t.toNat), true) else ([], false)

end Go.Proofs.Ytpmffboojkfpdaa

/-
  What the small functions on slices of numbers do: sums, comparisons, copies, marks.
-/
set_option linter.unusedVariables false
namespace Go.Proofs.Ytpmffboojkfpdaa
open Go.RowKit

set_option maxHeartbeats 400000 in
theorem i_sumInts (a : Option Addr) (n c : Nat) (l : List Int) (w : World) (h : IntsAt w a n l) (hn : n ≤ 4194304) (hv : ∀ x ∈ l, -1000000000000 ≤ x ∧ x ≤ 1000000000000) :
    Calls Try.prog 90 #[.slice a n c] w fun e w' => e = .returned (.int .i64 l.sum) ∧ w = w' := by
  obtain ⟨hl, hc⟩ := h
  have HL := hid hl
  clear hl
  go_enter Try.func90, Try.ntmps90
  go_wp2
  go_loop [3, 8] (fun s i => ∃ k : Nat, k ≤ n ∧ i = .int .i64 k ∧ s = .int .i64 ((l.take k).sum)) (fun _ i => n - (intOf i).toNat)
  case atStart => exact ⟨0, Nat.zero_le _, rfl, rfl⟩
  case round =>
    obtain ⟨k, hk, rfl, rfl⟩ := hrel
    by_cases hlt : k < n
    · obtain ⟨b, off, rfl, hbw, hcell⟩ := hc k hlt
      clear hc
      have hb1 := sum_take_bound l hv k (by have := HL.out; omega)
      have hb2 := sum_take_bound l hv (k + 1) (by have := HL.out; omega)
      rw [sum_take_succ l k (by have := HL.out; omega)] at hb2
      have hs := hid (sum_take_succ l k (by have := HL.out; omega))
      go_wp2
      go_round
      case rel => exact ⟨k + 1, by omega, by go_num, by rw [hs.out]⟩
      case measure => simp [intOf]; omega
    · go_wp2
      go_ret
      exact ⟨ret_int (by rw [List.take_of_length_le (by have := HL.out; omega)]), rfl⟩
set_option maxHeartbeats 400000 in
theorem l_vSum (a : Option Addr) (n c : Nat) (l : List Int) (w : World) (h : IntsAt w a n l) (hn : n ≤ 4194304) (hv : ∀ x ∈ l, -1000000000000 ≤ x ∧ x ≤ 1000000000000) :
    Calls Try.prog 58 #[.slice a n c] w fun e w' => e = .returned (.int .i64 l.sum) ∧ w = w' := by
  obtain ⟨hl, hc⟩ := h
  have HL := hid hl
  clear hl
  go_enter Try.func58, Try.ntmps58
  go_wp2
  go_loop [3, 4] (fun s i => ∃ k : Nat, k ≤ n ∧ i = .int .i64 k ∧ s = .int .i64 ((l.take k).sum)) (fun _ i => n - (intOf i).toNat)
  case atStart => exact ⟨0, Nat.zero_le _, rfl, rfl⟩
  case round =>
    obtain ⟨k, hk, rfl, rfl⟩ := hrel
    by_cases hlt : k < n
    · obtain ⟨b, off, rfl, hbw, hcell⟩ := hc k hlt
      clear hc
      have hb1 := sum_take_bound l hv k (by have := HL.out; omega)
      have hb2 := sum_take_bound l hv (k + 1) (by have := HL.out; omega)
      rw [sum_take_succ l k (by have := HL.out; omega)] at hb2
      have hs := hid (sum_take_succ l k (by have := HL.out; omega))
      go_wp2
      go_round
      case rel => exact ⟨k + 1, by omega, by go_num, by rw [hs.out]⟩
      case measure => simp [intOf]; omega
    · go_wp2
      go_ret
      exact ⟨ret_int (by rw [List.take_of_length_le (by have := HL.out; omega)]), rfl⟩
set_option maxHeartbeats 400000 in
theorem l_rSum (a : Option Addr) (n c : Nat) (l : List Int) (w : World) (h : IntsAt w a n l) (hn : n ≤ 4194304) (hv : ∀ x ∈ l, -1000000000000 ≤ x ∧ x ≤ 1000000000000) :
    Calls Try.prog 45 #[.slice a n c] w fun e w' => e = .returned (.int .i64 l.sum) ∧ w = w' := by
  obtain ⟨hl, hc⟩ := h
  have HL := hid hl
  clear hl
  go_enter Try.func45, Try.ntmps45
  go_wp2
  go_loop [3, 4] (fun s i => ∃ k : Nat, k ≤ n ∧ i = .int .i64 k ∧ s = .int .i64 ((l.take k).sum)) (fun _ i => n - (intOf i).toNat)
  case atStart => exact ⟨0, Nat.zero_le _, rfl, rfl⟩
  case round =>
    obtain ⟨k, hk, rfl, rfl⟩ := hrel
    by_cases hlt : k < n
    · obtain ⟨b, off, rfl, hbw, hcell⟩ := hc k hlt
      clear hc
      have hb1 := sum_take_bound l hv k (by have := HL.out; omega)
      have hb2 := sum_take_bound l hv (k + 1) (by have := HL.out; omega)
      rw [sum_take_succ l k (by have := HL.out; omega)] at hb2
      have hs := hid (sum_take_succ l k (by have := HL.out; omega))
      go_wp2
      go_round
      case rel => exact ⟨k + 1, by omega, by go_num, by rw [hs.out]⟩
      case measure => simp [intOf]; omega
    · go_wp2
      go_ret
      exact ⟨ret_int (by rw [List.take_of_length_le (by have := HL.out; omega)]), rfl⟩
theorem l_eqIntS_eq (a b : Option Addr) (n c d : Nat) (l l' : List Int) (w : World) (h : IntsAt w a n l) (h' : IntsAt w b n l') (hn : n ≤ 4194304) :
    Calls Try.prog 50 #[.slice a n c, .slice b n d] w fun e w' => e = .returned (.bool (decide (l = l'))) ∧ Below w.heap.size w w' := by
  obtain ⟨hl, hc⟩ := h
  obtain ⟨hl', hc'⟩ := h'
  have HL := hid hl
  have HL' := hid hl'
  clear hl hl'
  go_enter Try.func50, Try.ntmps50
  go_wp2
  go_loopw [5] (fun i wr => ∃ k t : Nat, k ≤ n ∧ i = .int .i64 k ∧ wr = w.drewN t ∧ l.take k = l'.take k) (fun i _ => n - (intOf i).toNat)
  case atStart => exact ⟨0, 0, Nat.zero_le _, rfl, rfl, by simp⟩
  case round =>
    obtain ⟨k, t, hk, rfl, rfl, heq⟩ := hrel
    have HE := hid heq
    clear heq
    by_cases hlt : k < n
    · obtain ⟨b1, off, rfl, hbw, hcell⟩ := hc k hlt
      obtain ⟨b2, off2, rfl, hbw2, hcell2⟩ := hc' k hlt
      clear hc hc'
      have e1 := hid (take_succ' l k (by have := HL.out; omega))
      have e2 := hid (take_succ' l' k (by have := HL'.out; omega))
      by_cases hx : l[k]?.getD 0 = l'[k]?.getD 0
      · have hx' : (l[k]?.getD 0 != l'[k]?.getD 0) = false := by simp [hx]
        have HX := hid hx
        clear hx
        go_wp2
        go_quiet (fail)
        go_wp2
        go_roundw
        case rel => exact ⟨k + 1, _, by omega, by go_num, rfl, by rw [e1.out, e2.out, HE.out, HX.out]⟩
        case measure => simp [intOf]; omega
      · have hx' : (l[k]?.getD 0 != l'[k]?.getD 0) = true := by simp [hx]
        go_wp2
        go_quiet (fail)
        go_wp2
        go_ret
        exact ⟨ret_bool (by symm; simp only [decide_eq_false_iff_not]; intro e; subst e; exact hx rfl), drew_drewN _ _⟩
    · go_wp2
      go_ret
      refine ⟨ret_bool ?_, bdraws _⟩
      have e := HE.out
      rw [List.take_of_length_le (by have := HL.out; omega), List.take_of_length_le (by have := HL'.out; omega)] at e
      simp [e]

theorem l_eqIntS (a b : Option Addr) (n m c d : Nat) (l l' : List Int) (w : World) (h : IntsAt w a n l) (h' : IntsAt w b m l') (hn : n ≤ 4194304) (hm : m ≤ 4194304) :
    Calls Try.prog 50 #[.slice a n c, .slice b m d] w fun e w' => e = .returned (.bool (decide (l = l'))) ∧ Below w.heap.size w w' := by
  by_cases hnm : n = m
  · subst hnm
    exact l_eqIntS_eq a b n c d l l' w h h' hn
  · have hne : decide (l = l') = false := by
      simp only [decide_eq_false_iff_not]; intro e; subst e; exact hnm (h.1.symm.trans h'.1)
    clear h h'
    have HN := hid hne
    clear hne
    go_enter Try.func50, Try.ntmps50
    go_wp2
    go_ret
    exact ⟨ret_bool HN.out.symm, Below.refl _ _⟩
theorem l_vInts_eq (a b : Option Addr) (n c d : Nat) (l l' : List Int) (w : World) (h : IntsAt w a n l) (h' : IntsAt w b n l') (hn : n ≤ 4194304) :
    Calls Try.prog 57 #[.slice a n c, .slice b n d] w fun e w' => e = .returned (.bool (decide (l = l'))) ∧ Below w.heap.size w w' := by
  obtain ⟨hl, hc⟩ := h
  obtain ⟨hl', hc'⟩ := h'
  have HL := hid hl
  have HL' := hid hl'
  clear hl hl'
  go_enter Try.func57, Try.ntmps57
  go_wp2
  go_loopw [5] (fun i wr => ∃ k t : Nat, k ≤ n ∧ i = .int .i64 k ∧ wr = w.drewN t ∧ l.take k = l'.take k) (fun i _ => n - (intOf i).toNat)
  case atStart => exact ⟨0, 0, Nat.zero_le _, rfl, rfl, by simp⟩
  case round =>
    obtain ⟨k, t, hk, rfl, rfl, heq⟩ := hrel
    have HE := hid heq
    clear heq
    by_cases hlt : k < n
    · obtain ⟨b1, off, rfl, hbw, hcell⟩ := hc k hlt
      obtain ⟨b2, off2, rfl, hbw2, hcell2⟩ := hc' k hlt
      clear hc hc'
      have e1 := hid (take_succ' l k (by have := HL.out; omega))
      have e2 := hid (take_succ' l' k (by have := HL'.out; omega))
      by_cases hx : l[k]?.getD 0 = l'[k]?.getD 0
      · have hx' : (l[k]?.getD 0 != l'[k]?.getD 0) = false := by simp [hx]
        have HX := hid hx
        clear hx
        go_wp2
        go_quiet (fail)
        go_wp2
        go_roundw
        case rel => exact ⟨k + 1, _, by omega, by go_num, rfl, by rw [e1.out, e2.out, HE.out, HX.out]⟩
        case measure => simp [intOf]; omega
      · have hx' : (l[k]?.getD 0 != l'[k]?.getD 0) = true := by simp [hx]
        go_wp2
        go_quiet (fail)
        go_wp2
        go_ret
        exact ⟨ret_bool (by symm; simp only [decide_eq_false_iff_not]; intro e; subst e; exact hx rfl), drew_drewN _ _⟩
    · go_wp2
      go_ret
      refine ⟨ret_bool ?_, bdraws _⟩
      have e := HE.out
      rw [List.take_of_length_le (by have := HL.out; omega), List.take_of_length_le (by have := HL'.out; omega)] at e
      simp [e]

theorem l_vInts (a b : Option Addr) (n m c d : Nat) (l l' : List Int) (w : World) (h : IntsAt w a n l) (h' : IntsAt w b m l') (hn : n ≤ 4194304) (hm : m ≤ 4194304) :
    Calls Try.prog 57 #[.slice a n c, .slice b m d] w fun e w' => e = .returned (.bool (decide (l = l'))) ∧ Below w.heap.size w w' := by
  by_cases hnm : n = m
  · subst hnm
    exact l_vInts_eq a b n c d l l' w h h' hn
  · have hne : decide (l = l') = false := by
      simp only [decide_eq_false_iff_not]; intro e; subst e; exact hnm (h.1.symm.trans h'.1)
    clear h h'
    have HN := hid hne
    clear hne
    go_enter Try.func57, Try.ntmps57
    go_wp2
    go_ret
    exact ⟨ret_bool HN.out.symm, Below.refl _ _⟩
theorem l_rInts_eq (a b : Option Addr) (n c d : Nat) (l l' : List Int) (w : World) (h : IntsAt w a n l) (h' : IntsAt w b n l') (hn : n ≤ 4194304) :
    Calls Try.prog 30 #[.slice a n c, .slice b n d] w fun e w' => e = .returned (.bool (decide (l = l'))) ∧ Below w.heap.size w w' := by
  obtain ⟨hl, hc⟩ := h
  obtain ⟨hl', hc'⟩ := h'
  have HL := hid hl
  have HL' := hid hl'
  clear hl hl'
  go_enter Try.func30, Try.ntmps30
  go_wp2
  go_loopw [5] (fun i wr => ∃ k t : Nat, k ≤ n ∧ i = .int .i64 k ∧ wr = w.drewN t ∧ l.take k = l'.take k) (fun i _ => n - (intOf i).toNat)
  case atStart => exact ⟨0, 0, Nat.zero_le _, rfl, rfl, by simp⟩
  case round =>
    obtain ⟨k, t, hk, rfl, rfl, heq⟩ := hrel
    have HE := hid heq
    clear heq
    by_cases hlt : k < n
    · obtain ⟨b1, off, rfl, hbw, hcell⟩ := hc k hlt
      obtain ⟨b2, off2, rfl, hbw2, hcell2⟩ := hc' k hlt
      clear hc hc'
      have e1 := hid (take_succ' l k (by have := HL.out; omega))
      have e2 := hid (take_succ' l' k (by have := HL'.out; omega))
      by_cases hx : l[k]?.getD 0 = l'[k]?.getD 0
      · have hx' : (l[k]?.getD 0 != l'[k]?.getD 0) = false := by simp [hx]
        have HX := hid hx
        clear hx
        go_wp2
        go_quiet (fail)
        go_wp2
        go_roundw
        case rel => exact ⟨k + 1, _, by omega, by go_num, rfl, by rw [e1.out, e2.out, HE.out, HX.out]⟩
        case measure => simp [intOf]; omega
      · have hx' : (l[k]?.getD 0 != l'[k]?.getD 0) = true := by simp [hx]
        go_wp2
        go_quiet (fail)
        go_wp2
        go_ret
        exact ⟨ret_bool (by symm; simp only [decide_eq_false_iff_not]; intro e; subst e; exact hx rfl), drew_drewN _ _⟩
    · go_wp2
      go_ret
      refine ⟨ret_bool ?_, bdraws _⟩
      have e := HE.out
      rw [List.take_of_length_le (by have := HL.out; omega), List.take_of_length_le (by have := HL'.out; omega)] at e
      simp [e]

theorem l_rInts (a b : Option Addr) (n m c d : Nat) (l l' : List Int) (w : World) (h : IntsAt w a n l) (h' : IntsAt w b m l') (hn : n ≤ 4194304) (hm : m ≤ 4194304) :
    Calls Try.prog 30 #[.slice a n c, .slice b m d] w fun e w' => e = .returned (.bool (decide (l = l'))) ∧ Below w.heap.size w w' := by
  by_cases hnm : n = m
  · subst hnm
    exact l_rInts_eq a b n c d l l' w h h' hn
  · have hne : decide (l = l') = false := by
      simp only [decide_eq_false_iff_not]; intro e; subst e; exact hnm (h.1.symm.trans h'.1)
    clear h h'
    have HN := hid hne
    clear hne
    go_enter Try.func30, Try.ntmps30
    go_wp2
    go_ret
    exact ⟨ret_bool HN.out.symm, Below.refl _ _⟩
theorem l_heldIntS (a : Option Addr) (n c : Nat) (k0 : Int) (w : World) (h : IntsAt w a n (marks k0 n)) (hn : n ≤ 4194304) (hk : 0 ≤ k0 ∧ k0 ≤ 1000000000000) :
    Calls Try.prog 54 #[.slice a n c, .int .i64 k0] w fun e w' => e = .returned (.int .i64 (k0 + n)) ∧ w = w' := by
  obtain ⟨hl, hc⟩ := h
  clear hl
  go_enter Try.func54, Try.ntmps54
  go_wp2
  go_loop [1, 5] (fun s i => ∃ k : Nat, k ≤ n ∧ i = .int .i64 k ∧ s = .int .i64 (k0 + k)) (fun _ i => n - (intOf i).toNat)
  case atStart => exact ⟨0, Nat.zero_le _, rfl, by simp⟩
  case round =>
    obtain ⟨k, hkn, rfl, rfl⟩ := hrel
    by_cases hlt : k < n
    · obtain ⟨b, off, rfl, hbw, hcell⟩ := hc k hlt
      clear hc
      rw [marks_get _ _ _ hlt] at hcell
      go_wp2
      go_round
      case rel => exact ⟨k + 1, by omega, by go_num, by congr 1; omega⟩
      case measure => simp [intOf]; omega
    · go_wp2
      go_ret
      exact ⟨ret_int (by omega), rfl⟩
theorem l_markIntS (a : Option Addr) (n c B : Nat) (l : List Int) (k0 : Int) (w : World) (h : OwnI w B (.slice a n c) l) (hn : n ≤ 4194304) (hk : 0 ≤ k0 ∧ k0 ≤ 1000000000000) :
    Calls Try.prog 53 #[.slice a n c, .int .i64 k0] w fun e w' => e = .returned (.int .i64 (k0 + n)) ∧ OwnI w' B (.slice a n c) (marks k0 n) ∧ w.grownBy w' (Value.ownBlock (.slice a n c)) := by
  rcases h.2 with ⟨h1, h0⟩ | ⟨g, cap, cur, h1, hB, hg, hnc, hm, hs, ht⟩
  · simp only [Value.slice.injEq] at h1
    obtain ⟨rfl, rfl, rfl⟩ := h1
    go_enter Try.func53, Try.ntmps53
    go_wp2
    refine wp_loop_rounds 1 ?_
    rw [rounds_succ]
    go_wp2
    go_ret
    exact ⟨ret_int (by simp), World.ownsRow_nil _ _ _ _, World.grownBy.refl _ _⟩
  · simp only [Value.slice.injEq] at h1
    obtain ⟨rfl, rfl, rfl⟩ := h1
    clear hg hs ht hm hnc hB
    have H := hid h
    clear h
    have HN := hid (rfl : l.length = l.length)
    revert H HN
    generalize hN : l.length = N at hn ⊢
    intro H _
    go_enter Try.func53, Try.ntmps53
    go_wp2
    go_loopw [1, 5] (fun s i wr => ∃ (k : Nat) (l' : List Int), k ≤ N ∧ i = .int .i64 k ∧ s = .int .i64 (k0 + k) ∧ Hid (OwnI wr B (.slice (some ⟨g, 0, none⟩) N c) l' ∧ l'.length = N ∧ (∀ j, j < k → l'[j]?.getD 0 = k0 + j) ∧ w.grownBy wr (some g))) (fun _ i _ => N - (intOf i).toNat)
    case atStart => exact ⟨0, l, Nat.zero_le _, rfl, by simp, H.out, hN, fun j hj => absurd hj (by omega), World.grownBy.refl _ _⟩
    case round =>
      obtain ⟨k, l', hkn, rfl, rfl, hh⟩ := hrel
      by_cases hlt : k < N
      · have hcell := hh.out.1.cell (k := k) hlt
        have hfr := hh.out.1.frozen (k := k)
        go_wp2
        go_roundw
        case rel =>
          refine ⟨k + 1, l'.set k (k0 + k), by omega, by go_num, by congr 1; omega, (hh.out.1.set _).1, by rw [List.length_set]; exact hh.out.2.1, ?_, grownBy_trans hh.out.2.2.2 (hh.out.1.set _).2⟩
          intro j hj
          have hle := hh.out.2.1
          by_cases e : k = j
          · subst e; rw [List.getElem?_set_self (by omega)]; rfl
          · rw [List.getElem?_set_ne e]; exact hh.out.2.2.1 j (by omega)
        case measure => simp [intOf]; omega
      · go_wp2
        go_ret
        have hkN : k = N := by omega
        refine ⟨ret_int (by omega), ?_, hh.out.2.2.2⟩
        subst hkN
        exact (marks_ext hh.out.2.1 hh.out.2.2.1) ▸ hh.out.1

theorem i_copyInts (a : Option Addr) (n c : Nat) (l : List Int) (w : World) (h : IntsAt w a n l) (hn : n ≤ 4194304) :
    Calls Try.prog 84 #[.slice a n c] w fun e w' => ∃ a' c', e = .returned (.slice a' n c') ∧ OwnI w' w.heap.size (.slice a' n c') l ∧ Below w.heap.size w w' := by
  have H := hid h
  clear h
  go_enter Try.func84, Try.ntmps84
  go_wp2_with (at_builtin; refine wp_append_ints _ rfl _ _ rfl w.heap.size _ [] rfl (OwnI.lit0 w) a n c l rfl (H.out.below ((Below.refl _ _).alloc (Nat.le_refl _) _)) n (by simp) (by omega) (by simp) ?_)
  intro a' c' w' hown hgrow _
  have HO := hid hown
  have HG := hid hgrow
  clear hown hgrow
  go_wp2
  go_ret
  exact ⟨_, _, rfl, HO.out, ((Below.refl _ _).alloc (Nat.le_refl _) _).grown HG.out (by simp) (fun k hk => by simp [Value.ownBlock] at hk; omega)⟩
theorem s_l1Own (a : Option Addr) (n c : Nat) (l : List Int) (w : World) (h : IntsAt w a n l) (hn : n ≤ 4194304) :
    Calls Try.prog 82 #[.slice a n c] w fun e w' => ∃ a' c', e = .returned (.slice a' n c') ∧ OwnI w' w.heap.size (.slice a' n c') l ∧ Below w.heap.size w w' := by
  have H := hid h
  clear h
  go_enter Try.func82, Try.ntmps82
  go_wp2_with (at_builtin; refine wp_append_ints _ rfl _ _ rfl w.heap.size _ [] rfl (OwnI.lit0 w) a n c l rfl (H.out.below ((Below.refl _ _).alloc (Nat.le_refl _) _)) n (by simp) (by omega) (by simp) ?_)
  intro a' c' w' hown hgrow _
  have HO := hid hown
  have HG := hid hgrow
  clear hown hgrow
  go_wp2
  go_ret
  exact ⟨_, _, rfl, HO.out, ((Below.refl _ _).alloc (Nat.le_refl _) _).grown HG.out (by simp) (fun k hk => by simp [Value.ownBlock] at hk; omega)⟩
theorem l_toIntS (a : Option Addr) (n c : Nat) (l : List Int) (w : World) (h : IntsAt w a n l) (hn : n ≤ 4194304) :
    Calls Try.prog 48 #[.slice a n c] w fun e w' => ∃ a' c', e = .returned (.slice a' n c') ∧ OwnI w' w.heap.size (.slice a' n c') l ∧ Below w.heap.size w w' := by
  obtain ⟨i0, hi, hz0, hz1, hz2⟩ := info_parts Try.infoInt
  have H := hid h
  clear h
  have HI := hid hi
  have HZ := hid hz0
  have HZ1 := hid hz1
  have HZ2 := hid hz2
  clear hi hz0 hz1 hz2
  go_enter Try.func48, Try.ntmps48
  go_wp2_with (at_make; refine wpList_make_full _ rfl _ _ 22 rfl w.heap.size 3 i0 (.int .i64 0) 1 Try.underlying22 HI.out HZ.out HZ1.out _ _ _ _ n rfl rfl rfl rfl ?b2 ?b3 ?b4 ?_)
  case b2 => rw [HZ2.out]; omega
  case b3 => unfold maxLen; omega
  case b4 => exact Nat.le_refl _
  intro w1 hown hgrow
  have ho := OwnI.made hown
  have HO := hid ho
  have HB := hid (below_of_grown hgrow (Nat.le_refl _) (fun k hk => by simp at hk))
  clear hown ho hgrow
  go_wp2
  go_loopw [4] (fun i wr => ∃ (k : Nat) (l' : List Int), k ≤ n ∧ i = .int .i64 k ∧ Hid (OwnI wr w.heap.size (.slice (some ⟨w.heap.size, 0, none⟩) n n) l' ∧ l'.take k = l.take k ∧ Below w.heap.size w wr)) (fun i _ => n - (intOf i).toNat)
  case atStart => exact ⟨0, List.replicate n 0, Nat.zero_le _, rfl, HO.out, by simp, HB.out⟩
  case round =>
    obtain ⟨k, l', hk, rfl, hh⟩ := hrel
    clear HO HB
    by_cases hlt : k < n
    · obtain ⟨b, off, rfl, hbw, hcell⟩ := (H.out.below hh.out.2.2).2 k hlt
      have hcell2 := hh.out.1.cell (k := k) hlt
      have hfr := hh.out.1.frozen (k := k)
      go_wp2
      go_roundw
      case rel =>
        refine ⟨k + 1, l'.set k (l[k]?.getD 0), by omega, by go_num, (hh.out.1.set _).1, ?_, hh.out.2.2.grown (hh.out.1.set (k := k) (l[k]?.getD 0)).2 hh.out.2.2.size (fun q hq => by simp at hq; omega)⟩
        have hl := hh.out.1.len
        have hl2 := H.out.1
        rw [take_succ' l k (by omega), take_succ' _ k (by rw [List.length_set]; omega), List.take_set, List.getElem?_set_self (by omega), ← hh.out.2.1, List.set_eq_of_length_le (by rw [List.length_take]; omega)]
        rfl
      case measure => simp [intOf]; omega
    · go_wp2
      go_ret
      have hl := hh.out.1.len
      have hl2 := H.out.1
      have e := hh.out.2.1
      rw [List.take_of_length_le (by omega), List.take_of_length_le (by omega)] at e
      exact ⟨_, _, rfl, e ▸ hh.out.1, hh.out.2.2⟩

end Go.Proofs.Ytpmffboojkfpdaa

/-
  What slices.IndexFunc and slices.ContainsFunc do over a test that only reads.
-/
set_option linter.unusedVariables false
namespace Go.Proofs.Ytpmffboojkfpdaa
open Go.RowKit

def enters (F : Nat) : Prop := ∀ (args : Array Value) (w : World), (callFunc F args).run Try.prog w = .ok (.enter F args) w

/-- The first index at which a test says yes, -1 if there is none. -/
def indexFn (p : Int → Bool) (l : List Int) : Int := match l.findIdx? p with | some i => (i : Int) | none => -1

theorem indexFn_hit (p : Int → Bool) (l : List Int) (k : Nat) (hk : k < l.length) (hp : p (l[k]?.getD 0) = true) (hm : ∀ j, j < k → p (l[j]?.getD 0) = false) : indexFn p l = k := by
  unfold indexFn
  have : l.findIdx? p = some k := by
    rw [List.findIdx?_eq_some_iff_getElem]
    refine ⟨hk, by rw [List.getElem?_eq_getElem hk] at hp; exact hp, fun j hj => ?_⟩
    have := hm j hj
    rw [List.getElem?_eq_getElem (by omega)] at this
    simpa using this
  rw [this]

theorem indexFn_miss (p : Int → Bool) (l : List Int) (hm : ∀ j, j < l.length → p (l[j]?.getD 0) = false) : indexFn p l = -1 := by
  unfold indexFn
  have : l.findIdx? p = none := by
    rw [List.findIdx?_eq_none_iff]
    intro x hx
    obtain ⟨j, hj, rfl⟩ := List.mem_iff_getElem.1 hx
    have := hm j hj
    rw [List.getElem?_eq_getElem hj] at this
    exact this
  rw [this]

set_option maxHeartbeats 400000 in
theorem f_IndexFunc (F : Nat) (cs : Array Value) (p : Int → Bool) (hF : enters F) (a : Option Addr) (n c : Nat) (l : List Int) (w : World) (h : IntsAt w a n l) (hn : n ≤ 4194304)
    (H : ∀ x w', x ∈ l → Below w.heap.size w w' → Calls Try.prog F (#[.int .i64 x] ++ cs) w' fun e w'' => e = .returned (.bool (p x)) ∧ Below w'.heap.size w' w'') :
    Calls Try.prog 114 #[.slice a n c, .func (.func F) #[] cs] w fun e w' => e = .returned (.int .i64 (indexFn p l)) ∧ Below w.heap.size w w' := by
  unfold enters at hF
  have HC := hid H
  have HI := hid h
  clear h H
  go_enter Try.func114, Try.ntmps114
  go_wp2
  go_loopw [5, 8] (fun j i wr => ∃ k : Nat, k ≤ n ∧ i = .int .i64 k ∧ Hid (Below w.heap.size w wr ∧ ∀ j, j < k → p (l[j]?.getD 0) = false)) (fun _ i _ => n - (intOf i).toNat)
  case atStart => exact ⟨0, Nat.zero_le _, rfl, Below.refl _ _, fun j hj => absurd hj (by omega)⟩
  case round =>
    obtain ⟨k, hk, rfl, hh⟩ := hrel
    by_cases hlt : k < n
    · obtain ⟨b, off, rfl, hbw, hcell⟩ := (HI.out.below hh.out.1).2 k hlt
      have hm : l[k]?.getD 0 ∈ l := getD_mem l k (by have := HI.out.1; omega)
      have hfun := hid (HC.out _ _ hm hh.out.1)
      clear hm
      cases hp : p (l[k]?.getD 0)
      · go_wp2_with fail
        refine hfun.out.mono ?_
        rintro e w' ⟨rfl, hb⟩
        rw [hp]
        have HP := hid hp
        have HB := hid hb
        clear hp hb
        go_wp2
        go_roundw
        case rel =>
          refine ⟨k + 1, by omega, by go_num, bstep hh.out.1 HB.out, fun j hj => ?_⟩
          by_cases e : j = k
          · subst e; exact HP.out
          · exact hh.out.2 j (by omega)
        case measure => simp [intOf]; omega
      · go_wp2_with fail
        refine hfun.out.mono ?_
        rintro e w' ⟨rfl, hb⟩
        rw [hp]
        have HP := hid hp
        have HB := hid hb
        clear hp hb
        go_wp2
        go_ret
        refine ⟨ret_int ?_, bstep hh.out.1 HB.out⟩
        rw [indexFn_hit p l k (by have := HI.out.1; omega) HP.out hh.out.2]
    · go_wp2
      go_ret
      refine ⟨ret_int ?_, hh.out.1⟩
      rw [indexFn_miss p l (fun j hj => hh.out.2 j (by have := HI.out.1; omega))]

theorem indexFn_any (p : Int → Bool) (l : List Int) : decide (0 ≤ indexFn p l) = l.any p := by
  unfold indexFn
  cases h : l.findIdx? p with
  | none => 
    rw [List.findIdx?_eq_none_iff] at h
    symm; simp; intro x hx; simpa using h x hx
  | some i =>
    have hl : i < l.length := by
      obtain ⟨h1, _⟩ := List.findIdx?_eq_some_iff_getElem.1 h
      exact h1
    have : l.any p = true := by
      rw [List.any_eq_true]
      obtain ⟨h1, h2, _⟩ := List.findIdx?_eq_some_iff_getElem.1 h
      exact ⟨l[i], List.getElem_mem h1, h2⟩
    rw [this]; simp

theorem f_ContainsFunc (F : Nat) (cs : Array Value) (p : Int → Bool) (hF : enters F) (a : Option Addr) (n c : Nat) (l : List Int) (w : World) (h : IntsAt w a n l) (hn : n ≤ 4194304)
    (H : ∀ x w', x ∈ l → Below w.heap.size w w' → Calls Try.prog F (#[.int .i64 x] ++ cs) w' fun e w'' => e = .returned (.bool (p x)) ∧ Below w'.heap.size w' w'') :
    Calls Try.prog 88 #[.slice a n c, .func (.func F) #[] cs] w fun e w' => e = .returned (.bool (l.any p)) ∧ Below w.heap.size w w' := by
  have HF := hid (f_IndexFunc F cs p hF a n c l w h hn H)
  clear hF h H
  have HP := hid (indexFn_any p l)
  go_enter Try.func88, Try.ntmps88
  go_wp2_with fail
  refine HF.out.mono ?_
  rintro e w' ⟨rfl, hb⟩
  go_wp2
  go_ret
  exact ⟨ret_bool HP.out, hb⟩

end Go.Proofs.Ytpmffboojkfpdaa

/-
  A number in a range.
-/
set_option linter.unusedVariables false
set_option linter.unusedSimpArgs false
namespace Go.Proofs.Ytpmffboojkfpdaa
open Go.RowKit

def inR (n lo hi : Int) : Bool := decide (lo ≤ n ∧ n ≤ hi)
theorem inR_iff {n lo hi : Int} : inR n lo hi = true ↔ lo ≤ n ∧ n ≤ hi := by simp [inR]
theorem inR_no {n lo hi : Int} : inR n lo hi = false ↔ ¬ (lo ≤ n ∧ n ≤ hi) := by simp [inR]

theorem i_inside (n lo hi : Int) (w : World) : Calls Try.prog 76 #[.int .i64 n, .int .i64 lo, .int .i64 hi] w fun e w' => e = .returned (.bool (inR n lo hi)) ∧ w = w' := by
  go_enter Try.func76, Try.ntmps76
  go_wp2
  all_goals go_ret
  all_goals exact ⟨ret_bool (by simp [inR] <;> omega), rfl⟩
theorem s_l1In (n lo hi : Int) (w : World) : Calls Try.prog 74 #[.int .i64 n, .int .i64 lo, .int .i64 hi] w fun e w' => e = .returned (.bool (inR n lo hi)) ∧ w = w' := by
  go_enter Try.func74, Try.ntmps74
  go_wp2
  all_goals go_ret
  all_goals exact ⟨ret_bool (by simp [inR] <;> omega), rfl⟩

end Go.Proofs.Ytpmffboojkfpdaa

/-
  Numbers: absolute values, the greatest common divisor, fractions in lowest terms.
-/
set_option linter.unusedVariables false
set_option linter.unusedSimpArgs false
namespace Go.Proofs.Ytpmffboojkfpdaa
open Go.RowKit

/-- A number that products are taken of. -/
abbrev fine (x : Int) : Prop := -1152921504606846976 ≤ x ∧ x ≤ 1152921504606846976

theorem i_absOf (x : Int) (w : World) (h : -4611686018427387904 ≤ x ∧ x ≤ 4611686018427387904) : Calls Try.prog 131 #[.int .i64 x] w fun e w' => e = .returned (.int .i64 (max x (-x))) ∧ w = w' := by
  go_enter Try.func131, Try.ntmps131
  go_wp2
  all_goals go_ret
  all_goals exact ⟨ret_int (by omega), rfl⟩
theorem s_l1Most (a b : Int) (w : World) : Calls Try.prog 79 #[.int .i64 a, .int .i64 b] w fun e w' => e = .returned (.int .i64 (max a b)) ∧ w = w' := by
  by_cases h : a > b
  · go_enter Try.func79, Try.ntmps79
    go_wp2
    go_ret
    exact ⟨ret_int (by omega), rfl⟩
  · go_enter Try.func79, Try.ntmps79
    go_wp2
    go_ret
    exact ⟨ret_int (by omega), rfl⟩
theorem s_l1Least (a b : Int) (w : World) : Calls Try.prog 78 #[.int .i64 a, .int .i64 b] w fun e w' => e = .returned (.int .i64 (min a b)) ∧ w = w' := by
  by_cases h : a < b
  · go_enter Try.func78, Try.ntmps78
    go_wp2
    go_ret
    exact ⟨ret_int (by omega), rfl⟩
  · go_enter Try.func78, Try.ntmps78
    go_wp2
    go_ret
    exact ⟨ret_int (by omega), rfl⟩

/-- The greatest common divisor. -/
def gd (a b : Int) : Int := (Nat.gcd a.natAbs b.natAbs : Nat)
theorem max_abs (x : Int) : max x (-x) = (x.natAbs : Int) := by omega
theorem gd_pos {a b : Int} (h : 0 < b) : 0 < gd a b := by
  unfold gd
  have : 0 < Nat.gcd a.natAbs b.natAbs := Nat.gcd_pos_of_pos_right _ (by omega)
  omega
theorem gcd_step (x y : Nat) (h : y ≠ 0) : Nat.gcd y (x % y) = Nat.gcd x y := by
  rw [Nat.gcd_comm x y, Nat.gcd_rec y x, Nat.gcd_comm]

set_option maxHeartbeats 1000000 in
theorem i_gcdOf (a b : Int) (w : World) (ha : fine a) (hb : fine b) : Calls Try.prog 112 #[.int .i64 a, .int .i64 b] w fun e w' => e = .returned (.int .i64 (gd a b)) ∧ ∃ m, w' = w.drewN m := by
  have ea := max_abs a
  have eb := max_abs b
  have la : a.natAbs ≤ 1152921504606846976 := by omega
  have lb : b.natAbs ≤ 1152921504606846976 := by omega
  go_enter Try.func112, Try.ntmps112
  go_wp2_with fail
  refine (i_absOf _ _ (by omega)).mono ?_
  rintro e _ ⟨rfl, rfl⟩
  go_wp2_with fail
  refine (i_absOf _ _ (by omega)).mono ?_
  rintro e _ ⟨rfl, rfl⟩
  go_wp2
  go_loopw [0, 1] (fun s0 s1 wr => ∃ x y t : Nat, s0 = .int .i64 x ∧ s1 = .int .i64 y ∧ x ≤ 1152921504606846976 ∧ y ≤ 1152921504606846976 ∧ Hid (Nat.gcd x y = Nat.gcd a.natAbs b.natAbs) ∧ wr = w.drewN t) (fun _ s1 _ => (intOf s1).toNat)
  case atStart => exact ⟨a.natAbs, b.natAbs, 0, rfl, rfl, la, lb, rfl, rfl⟩
  case round =>
    obtain ⟨x, y, t, rfl, rfl, hx, hy, hg, rfl⟩ := hrel
    by_cases h0 : y = 0
    · subst h0
      go_wp2
      go_ret
      refine ⟨ret_int ?_, t, rfl⟩
      rw [gd, ← hg.out, Nat.gcd_zero_right]
    · go_wp2
      go_quiet (fail)
      go_wp2
      go_roundw
      case rel => exact ⟨y, x % y, t + nq, rfl, by rw [Int.natCast_emod], hy, by have := Nat.mod_lt x (Nat.pos_of_ne_zero h0); omega, by rw [gcd_step _ _ h0]; exact hg, by rw [World.drewN_drewN]⟩
      case measure =>
        have := Nat.mod_lt x (Nat.pos_of_ne_zero h0)
        simp only [intOf]
        rw [← Int.natCast_emod, Int.toNat_natCast, Int.toNat_natCast]
        exact this

set_option maxHeartbeats 1000000 in
theorem s_l3Common (a b : Int) (w : World) (ha : fine a) (hb : fine b) : Calls Try.prog 111 #[.int .i64 a, .int .i64 b] w fun e w' => e = .returned (.int .i64 (gd a b)) ∧ ∃ m, w' = w.drewN m := by
  have ea := max_abs a
  have eb := max_abs b
  have la : a.natAbs ≤ 1152921504606846976 := by omega
  have lb : b.natAbs ≤ 1152921504606846976 := by omega
  go_enter Try.func111, Try.ntmps111
  go_wp2_with fail
  refine (s_l1Most _ _ _).mono ?_
  rintro e _ ⟨rfl, rfl⟩
  go_wp2_with fail
  refine (s_l1Most _ _ _).mono ?_
  rintro e _ ⟨rfl, rfl⟩
  go_wp2
  go_loopw [0, 1] (fun s0 s1 wr => ∃ x y t : Nat, s0 = .int .i64 x ∧ s1 = .int .i64 y ∧ x ≤ 1152921504606846976 ∧ y ≤ 1152921504606846976 ∧ Hid (Nat.gcd x y = Nat.gcd a.natAbs b.natAbs) ∧ wr = w.drewN t) (fun _ s1 _ => (intOf s1).toNat)
  case atStart => exact ⟨a.natAbs, b.natAbs, 0, rfl, rfl, la, lb, rfl, rfl⟩
  case round =>
    obtain ⟨x, y, t, rfl, rfl, hx, hy, hg, rfl⟩ := hrel
    by_cases h0 : y = 0
    · subst h0
      go_wp2
      go_ret
      refine ⟨ret_int ?_, t, rfl⟩
      rw [gd, ← hg.out, Nat.gcd_zero_right]
    · go_wp2
      go_roundw
      case rel => exact ⟨y, x % y, t, rfl, by rw [Int.natCast_emod], hy, by have := Nat.mod_lt x (Nat.pos_of_ne_zero h0); omega, by rw [gcd_step _ _ h0]; exact hg, rfl⟩
      case measure =>
        have := Nat.mod_lt x (Nat.pos_of_ne_zero h0)
        simp only [intOf]
        rw [← Int.natCast_emod, Int.toNat_natCast, Int.toNat_natCast]
        exact this

/-- The parts of a fraction in lowest terms. -/
def lowN (a b : Int) : Int := a.tdiv (gd a b)
def lowD (a b : Int) : Int := b / gd a b
theorem gd_dvd (a b : Int) : gd a b ∣ b := by
  unfold gd
  exact Int.ofNat_dvd_left.2 (Nat.gcd_dvd_right _ _)
theorem lowD_pos {a b : Int} (h : 0 < b) : 0 < lowD a b := Int.ediv_pos_of_pos_of_dvd h (by have := gd_pos (a := a) h; omega) (gd_dvd a b)
theorem lowD_le {a b : Int} (h : 0 < b) : lowD a b ≤ b := Int.ediv_le_self _ (by omega)
theorem gd_ge {a b : Int} (h : 0 < b) : 1 ≤ gd a b := by have := gd_pos (a := a) h; omega
theorem lowN_abs {a b : Int} (h : 0 < b) : (lowN a b).natAbs ≤ a.natAbs := by
  unfold lowN
  rw [Int.natAbs_tdiv]
  exact Nat.div_le_self _ _
theorem lowN_fine {a b B : Int} (h : 0 < b) (hB : -B ≤ a ∧ a ≤ B) : -B ≤ lowN a b ∧ lowN a b ≤ B := by
  have := lowN_abs (a := a) h
  omega
theorem gd_dvdN (a b : Int) : gd a b ∣ a := by
  unfold gd
  exact Int.ofNat_dvd_left.2 (Nat.gcd_dvd_left _ _)
/-- The fraction is the same. -/
theorem low_eq {a b : Int} (h : 0 < b) : lowN a b * b = a * lowD a b := by
  obtain ⟨x, hx⟩ := gd_dvdN a b
  obtain ⟨y, hy⟩ := gd_dvd a b
  have hg := gd_pos (a := a) h
  have e1 : lowN a b = x := by
    unfold lowN
    generalize hG : gd a b = G at *
    rw [hx]; exact Int.mul_tdiv_cancel_left _ (by omega)
  have e2 : lowD a b = y := by
    unfold lowD
    generalize hG : gd a b = G at *
    rw [hy]; exact Int.mul_ediv_cancel_left _ (by omega)
  rw [e1, e2]
  generalize hG : gd a b = G at *
  rw [hy, hx]
  grind

theorem i_lowestTerms (a b : Int) (w : World) (ha : fine a) (hb : fine b) (h0 : 0 < b) : Calls Try.prog 73 #[.int .i64 a, .int .i64 b] w fun e w' => e = .returned (.tuple #[.int .i64 (lowN a b), .int .i64 (lowD a b)]) ∧ ∃ m, w' = w.drewN m := by
  have hg := gd_pos (a := a) h0
  go_enter Try.func73, Try.ntmps73
  go_wp2_with fail
  refine (i_gcdOf _ _ _ ha hb).mono ?_
  rintro e _ ⟨rfl, m, rfl⟩
  go_wp2
  go_quiet (fail)
  go_wp2
  go_ret2
  exact ⟨rfl, _, World.drewN_drewN ..⟩
theorem s_l3Reduce (a b : Int) (w : World) (ha : fine a) (hb : fine b) (h0 : 0 < b) : Calls Try.prog 71 #[.int .i64 a, .int .i64 b] w fun e w' => e = .returned (.tuple #[.int .i64 (lowN a b), .int .i64 (lowD a b)]) ∧ ∃ m, w' = w.drewN m := by
  have hg := gd_pos (a := a) h0
  go_enter Try.func71, Try.ntmps71
  go_wp2_with fail
  refine (s_l3Common _ _ _ ha hb).mono ?_
  rintro e _ ⟨rfl, m, rfl⟩
  go_wp2
  go_quiet (fail)
  go_wp2
  go_ret2
  exact ⟨rfl, _, World.drewN_drewN ..⟩


theorem mul_in {x y A B : Int} (hx : -A ≤ x ∧ x ≤ A) (hy : -B ≤ y ∧ y ≤ B) : -(A * B) ≤ x * y ∧ x * y ≤ A * B := by
  have h1 : x.natAbs ≤ A.toNat := by omega
  have h2 : y.natAbs ≤ B.toNat := by omega
  have h3 : (x * y).natAbs ≤ A.toNat * B.toNat := by rw [Int.natAbs_mul]; exact Nat.mul_le_mul h1 h2
  have h4 : ((A.toNat * B.toNat : Nat) : Int) = A * B := by
    rw [Int.natCast_mul, Int.toNat_of_nonneg (by omega), Int.toNat_of_nonneg (by omega)]
  omega

end Go.Proofs.Ytpmffboojkfpdaa

/-
  A drawn region whose operations read and whose calls may make memory, but hand back values that do not hang on the world: one walk in the order of the text.
-/
set_option linter.unusedVariables false
namespace Go.Proofs.Ytpmffboojkfpdaa
open Go.RowKit

theorem wp_region_calm {P : Program} {C : World → Prop} {id : Nat} {Q : Exit → Act → World → Prop} {a : Act} {w : World} {l : List Oper} (hm : P.follows .mixedOrders = true) (hB : Region.lexB .any l.toArray = true) (hC : C w.drew)
    (h : wpQuiet P l.toArray C (fun a' => ∀ w', C w' → Q .normal a' w') l a) : (Code.region id l.toArray true).wp P Q a w :=
  wp_region_quiet (C := C) hm hB hC (by simpa using h)

/-- at a call of a function: its contract -/
theorem calm_call {P : Program} {C : World → Prop} {w' : World} {f : FuncId} {args : Array Value} {v u : Value} (hC : C w') (keep : ∀ wy w5 : World, C wy → Below wy.heap.size wy w5 → C w5)
    (h : Calls P f args w' fun e w5 => e = .returned u ∧ Below w'.heap.size w' w5) (e : u = v) : Calls P f args w' fun e w'' => e = .returned v ∧ C w'' :=
  h.mono fun _ _ ⟨he, hb⟩ => ⟨by rw [he, e], keep _ _ hC hb⟩
theorem calm_same {P : Program} {C : World → Prop} {w' : World} {f : FuncId} {args : Array Value} {v u : Value} (hC : C w')
    (h : Calls P f args w' fun e w5 => e = .returned u ∧ w' = w5) (e : u = v) : Calls P f args w' fun e w'' => e = .returned v ∧ C w'' :=
  h.mono fun _ _ ⟨he, hb⟩ => ⟨by rw [he, e], hb ▸ hC⟩

end Go.Proofs.Ytpmffboojkfpdaa

