/-
  Networks: a pipe found by its Id, the loss of a pipe.
-/
import Derived.Test.YtheaagbffphdmaaNetE
set_option linter.unusedVariables false
set_option linter.unusedSimpArgs false
namespace Go.Proofs.Ytheaagbffphdmaa
open Go.RowKit

/-- The index of the pipe with an Id, -1 if there is none. -/
def findQ (l : List Pip) (id : Int) : Int := match l.findIdx? (fun p => decide (p.1 = id)) with | some i => (i : Int) | none => -1
theorem findQ_hit {l : List Pip} {id : Int} {k : Nat} (hk : k < l.length) (hp : (pp l k).1 = id) (hm : ∀ j, j < k → (pp l j).1 ≠ id) : findQ l id = k := by
  unfold findQ
  have : l.findIdx? (fun p => decide (p.1 = id)) = some k := by
    rw [List.findIdx?_eq_some_iff_getElem]
    refine ⟨hk, by unfold pp at hp; rw [List.getElem?_eq_getElem hk] at hp; simpa using hp, fun j hj => ?_⟩
    have := hm j hj
    unfold pp at this
    rw [List.getElem?_eq_getElem (by omega)] at this
    simpa using this
  rw [this]
theorem findQ_miss {l : List Pip} {id : Int} (hm : ∀ j, j < l.length → (pp l j).1 ≠ id) : findQ l id = -1 := by
  unfold findQ
  have : l.findIdx? (fun p => decide (p.1 = id)) = none := by
    rw [List.findIdx?_eq_none_iff]
    intro x hx
    obtain ⟨j, hj, rfl⟩ := List.mem_iff_getElem.1 hx
    have := hm j hj
    unfold pp at this
    rw [List.getElem?_eq_getElem hj] at this
    simpa using this
  rw [this]
theorem findQ_cases (l : List Pip) (id : Int) : findQ l id = -1 ∨ ∃ k : Nat, k < l.length ∧ findQ l id = k := by
  unfold findQ
  cases h : l.findIdx? (fun p => decide (p.1 = id)) with
  | none => exact .inl rfl
  | some i =>
    obtain ⟨h1, -, -⟩ := List.findIdx?_eq_some_iff_getElem.1 h
    exact .inr ⟨i, h1, rfl⟩

set_option maxHeartbeats 1000000 in
theorem s_l2Find (N id : Int) (a : Option Addr) (n c : Nat) (l : List Pip) (w : World) (h : QAt w a n l) (hn : n ≤ 1048576) :
    Calls Try.prog 57 #[.agg #[.int .i64 N, .slice a n c], .int .i64 id] w fun e w' => e = .returned (.int .i64 (findQ l id)) ∧ Below w.heap.size w w' := by
  have H := hid h
  have HL := hid h.1
  clear h
  go_enter Try.func57, Try.ntmps57
  go_wp2
  go_loopg [5] n (fun g i wr => ∃ k : Nat, k ≤ n ∧ g = n - k ∧ i = .int .i64 k ∧ wr = w.alloc (.cells #[.int .i64 N, .slice a n c] 31) ∧ Hid (∀ j, j < k → (pp l j).1 ≠ id))
  case atStart => exact ⟨0, Nat.zero_le _, rfl, rfl, rfl, hid (fun j hj => absurd hj (by omega))⟩
  case round =>
    obtain ⟨k, hk, rfl, rfl, rfl, hh⟩ := hrel
    by_cases hlt : k < n
    · obtain ⟨b0, off0, rfl, hbw, x0, x1, x2, x3⟩ := QAt.get (H.out.below ((Below.refl _ _).alloc (Nat.le_refl _) (.cells #[.int .i64 N, .slice a n c] 31))) k hlt
      by_cases hp : (pp l k).1 = id
      · have E := hid (findQ_hit (by have := HL.out; omega) hp hh.out)
        go_wp2
        go_ret
        exact ⟨ret_int E.out.symm, by go_grown⟩
      · go_wp2
        go_roundg (n - (k + 1))
        case rel =>
          refine ⟨k + 1, by omega, rfl, by go_num, rfl, hid (fun j hj => ?_)⟩
          by_cases e : j = k
          · subst e; exact hp
          · exact hh.out j (by omega)
        case measure => omega
    · obtain rfl : n = k := by omega
      have E := hid (findQ_miss (l := l) (id := id) (fun j hj => hh.out j (by have := HL.out; omega)))
      go_wp2
      go_ret
      exact ⟨ret_int E.out.symm, by go_grown⟩

theorem enters_pipeIndex : enters 102 := by intro args w; kernel_rfl
theorem i_pipeIndex1 (p0 p1 p2 p3 id : Int) (g : Nat) (w : World) (h : w.cell? ⟨g, 0, none⟩ = some (.int .i64 id)) :
    Calls Try.prog 102 #[.agg #[.int .i64 p0, .int .i64 p1, .int .i64 p2, .int .i64 p3], .pointer (some ⟨g, 0, none⟩)] w fun e w' => e = .returned (.bool (decide (p0 = id))) ∧ Below w.heap.size w w' := by
  have hg := World.block_lt_of_cell? w _ h
  by_cases hp : p0 = id
  · have E := hid (show true = decide (p0 = id) by simp [hp])
    go_enter Try.func102, Try.ntmps102
    go_wp2
    go_ret
    exact ⟨ret_bool (by simp [hp]), by go_grown⟩
  · have E := hid (show false = decide (p0 = id) by simp [hp])
    go_enter Try.func102, Try.ntmps102
    go_wp2
    go_ret
    exact ⟨ret_bool (by simp [hp]), by go_grown⟩

set_option maxHeartbeats 1000000 in
theorem f_IndexFuncQ (g : Nat) (id : Int) (a : Option Addr) (n c : Nat) (l : List Pip) (w : World) (h : QAt w a n l) (hn : n ≤ 4194304) (hid0 : w.cell? ⟨g, 0, none⟩ = some (.int .i64 id)) :
    Calls Try.prog 101 #[.slice a n c, .func (.func 102) #[] #[.pointer (some ⟨g, 0, none⟩)]] w fun e w' => e = .returned (.int .i64 (findQ l id)) ∧ Below w.heap.size w w' := by
  have hF := enters_pipeIndex
  unfold enters at hF
  have HI := hid h
  have HL := hid h.1
  have HD := hid hid0
  have HZ := hid (World.block_lt_of_cell? w _ hid0)
  clear h hid0
  go_enter Try.func101, Try.ntmps101
  go_wp2
  go_loopw [5, 8] (fun j i wr => ∃ k : Nat, k ≤ n ∧ i = .int .i64 k ∧ Hid (Below w.heap.size w wr ∧ ∀ j, j < k → (pp l j).1 ≠ id)) (fun _ i _ => n - (intOf i).toNat)
  case atStart => exact ⟨0, Nat.zero_le _, rfl, Below.refl _ _, fun j hj => absurd hj (by omega)⟩
  case round =>
    obtain ⟨k, hk, rfl, hh⟩ := hrel
    by_cases hlt : k < n
    · obtain ⟨b, off, rfl, hbw, x0, x1, x2, x3⟩ := QAt.get (HI.out.below hh.out.1) k hlt
      have hfun := hid (i_pipeIndex1 (pp l k).1 (pp l k).2.1 (pp l k).2.2.1 (pp l k).2.2.2 id g wr ((hh.out.1.cell HZ.out).trans HD.out))
      by_cases hp : (pp l k).1 = id
      · have HP := hid hp
        have HT := hid (show decide ((pp l k).1 = id) = true by simp [hp])
        clear hp
        go_wp2_with fail
        refine hfun.out.mono ?_
        rintro e w' ⟨rfl, hb⟩
        rw [HT.out]
        have HB := hid hb
        clear hb
        go_wp2
        go_ret
        refine ⟨ret_int ?_, bstep hh.out.1 HB.out⟩
        rw [findQ_hit (by have := HL.out; omega) HP.out hh.out.2]
      · have HP := hid hp
        have HT := hid (show decide ((pp l k).1 = id) = false by simp [hp])
        clear hp
        go_wp2_with fail
        refine hfun.out.mono ?_
        rintro e w' ⟨rfl, hb⟩
        rw [HT.out]
        have HB := hid hb
        clear hb
        go_wp2
        go_roundw
        case rel =>
          refine ⟨k + 1, by omega, by go_num, bstep hh.out.1 HB.out, fun j hj => ?_⟩
          by_cases e : j = k
          · subst e; exact HP.out
          · exact hh.out.2 j (by omega)
        case measure => simp [intOf]; omega
    · go_wp2
      go_ret
      refine ⟨ret_int ?_, hh.out.1⟩
      rw [findQ_miss (fun j hj => hh.out.2 j (by have := HL.out; omega))]

theorem last_newL (W : World) (x : Obj) (g : Nat) (hg : g = W.heap.size) : (W.alloc x).heap[g]? = some x := by
  subst hg
  exact heap_alloc_new _ _
theorem i_pipeIndex (N id : Int) (a : Option Addr) (n c : Nat) (l : List Pip) (w : World) (h : QAt w a n l) (hn : n ≤ 1048576) :
    Calls Try.prog 61 #[.agg #[.int .i64 N, .slice a n c], .int .i64 id] w fun e w' => e = .returned (.int .i64 (findQ l id)) ∧ Below w.heap.size w w' := by
  have H := hid h
  clear h
  go_enter Try.func61, Try.ntmps61
  go_wp2_with fail
  refine (f_IndexFuncQ (w.heap.size + 1) id _ _ _ l _ (H.out.below (by go_grown)) (by omega) (cell_of_row _ _ 0 _ _ (0, 0) (last_newL (w.alloc (.cells #[.int .i64 N, .slice a n c] 31)) (.cells #[.int .i64 id] 3) _ (by simp)))).mono ?_
  rintro e w1 ⟨rfl, hb1⟩
  go_wp2
  go_ret
  exact ⟨rfl, bstep (by go_grown) hb1⟩

/-- The loss of the pipe at an index. -/
def loss (l : List Pip) (fs : List Int) (k : Nat) : Int := (pp l k).2.2.2 * fs[k]?.getD 0 * max (fs[k]?.getD 0) (-(fs[k]?.getD 0))
theorem loss_fit {s q : Int} (hs : 1 ≤ s ∧ s ≤ 9) (hq : -8000 ≤ q ∧ q ≤ 8000) : (-72000 ≤ s * q ∧ s * q ≤ 72000) ∧ (-576000000 ≤ s * q * max q (-q) ∧ s * q * max q (-q) ≤ 576000000) := by
  have hm : 0 ≤ max q (-q) ∧ max q (-q) ≤ 8000 := by omega
  have a1 := mul_in (x := s) (y := q) (A := 9) (B := 8000) (by omega) (by omega)
  simp only [Int.reduceMul] at a1
  have b1 := mul_in (x := s * q) (y := max q (-q)) (A := 72000) (B := 8000) (by omega) (by omega)
  simp only [Int.reduceMul] at b1
  exact ⟨a1, b1⟩

set_option maxRecDepth 100000 in
set_option maxHeartbeats 2000000 in
theorem s_l9Loss (p0 p1 p2 s q : Int) (w : World) (hs : 1 ≤ s ∧ s ≤ 9) (hq : -8000 ≤ q ∧ q ≤ 8000) :
    Calls Try.prog 59 #[.agg #[.int .i64 p0, .int .i64 p1, .int .i64 p2, .int .i64 s], .int .i64 q] w fun e w' => e = .returned (.int .i64 (s * q * max q (-q))) ∧ Below w.heap.size w w' := by
  obtain ⟨f1, f2⟩ := loss_fit hs hq
  have hw1 := IntWalk.i64_in (s * q) (by omega)
  have hw2 := IntWalk.i64_in (s * q * max q (-q)) (by omega)
  go_enter Try.func59, Try.ntmps59
  go_upto_region 1 with fail
  have X := hid (show Below w.heap.size w (w.alloc (.cells #[.int .i64 p0, .int .i64 p1, .int .i64 p2, .int .i64 s] 65)).drew ∧ (w.alloc (.cells #[.int .i64 p0, .int .i64 p1, .int .i64 p2, .int .i64 s] 65)).drew.cell? ⟨w.heap.size, 3, none⟩ = some (.int .i64 s) from ⟨((Below.refl _ _).alloc (Nat.le_refl _) _).drew, cell_of_row _ _ 3 _ _ (0, 0) (heap_alloc_new _ _)⟩)
  refine wp_region_calm (C := (fun w' => Below w.heap.size w w' ∧ w'.cell? ⟨w.heap.size, 3, none⟩ = some (.int .i64 s))) (by kernel_rfl) (by kernel_rfl) (X.out) ?_
  repeat
    first
      | go_big_quiet_skip
      | (go_big_quiet_want
         first
           | (unfold Oper.quiet
              apply Exists.intro
              refine ⟨fun wq hq => ?_, ?_⟩
              · (try dsimp only at hq
                 simp [go_sem, Oper.quietAt, Oper.quietUpon, BigFrame.eval_const, BigFrame.eval_global, BigFrame.eval_func, ↓IntWalk.iteOmega, *]
                 first | done | rfl | (refine calm_same hq (s_l8Abs _ _ (by omega)) rfl))
              simp only [Act.put, List.setIfInBounds_toArray, List.set_cons_succ, List.set_cons_zero]
              go_big_quiet_on))
  refine wpQuiet_nil ?_
  intro wc hcalm
  try dsimp only at hcalm
  have HC := hid hcalm.1
  clear hcalm hw1 hw2
  go_wp2
  go_ret
  exact ⟨rfl, HC.out⟩

set_option maxRecDepth 100000 in
set_option maxHeartbeats 2000000 in
theorem i_lossOf (N : Int) (a b : Option Addr) (n c d k : Nat) (l : List Pip) (fs : List Int) (w : World) (h : QAt w a n l) (h' : IntsAt w b n fs) (hg : goodNet N l = true) (hf : goodFl n fs = true) (hk : k < n) :
    Calls Try.prog 62 #[.agg #[.int .i64 N, .slice a n c], .slice b n d, .int .i64 k] w fun e w' => e = .returned (.int .i64 (loss l fs k)) ∧ Below w.heap.size w w' := by
  have hp := (goodNet_pipe hg (k := k) (by have := h.1; omega)).2.2.2.2
  have hq := (goodFl_iff.1 hf).2 _ (getD_mem' (k := k) (by have := h'.1; omega))
  obtain ⟨f1, f2⟩ := loss_fit hp hq
  have hn : n ≤ 10 := by have := (goodNet_get hg).2.1; have := h.1; omega
  have hw1 := IntWalk.i64_in ((pp l k).2.2.2 * fs[k]?.getD 0) (by omega)
  have hw2 := IntWalk.i64_in ((pp l k).2.2.2 * fs[k]?.getD 0 * max (fs[k]?.getD 0) (-(fs[k]?.getD 0))) (by omega)
  obtain ⟨b0, off0, rfl, hbw, x0, x1, x2, x3⟩ := QAt.get h k hk
  obtain ⟨b1, off1, rfl, hbw1, hcell⟩ := h'.2 k hk
  clear h h' hg hf
  go_enter Try.func62, Try.ntmps62
  go_upto_region 1 with fail
  have X := hid (show Below w.heap.size w (w.alloc (.cells #[.int .i64 N, .slice (some ⟨b0, off0, none⟩) n c] 31)).drew ∧ (w.alloc (.cells #[.int .i64 N, .slice (some ⟨b0, off0, none⟩) n c] 31)).drew.cell? ⟨w.heap.size, 1, none⟩ = some (.slice (some ⟨b0, off0, none⟩) n c) ∧ (w.alloc (.cells #[.int .i64 N, .slice (some ⟨b0, off0, none⟩) n c] 31)).drew.cell? ⟨b0, off0 + k * 4 + 3, none⟩ = some (.int .i64 (pp l k).2.2.2) ∧ (w.alloc (.cells #[.int .i64 N, .slice (some ⟨b0, off0, none⟩) n c] 31)).drew.cell? ⟨b1, off1 + k, none⟩ = some (.int .i64 (fs[k]?.getD 0)) from ⟨((Below.refl _ _).alloc (Nat.le_refl _) _).drew, cell_of_row _ _ 1 _ _ (0, 0) (heap_alloc_new _ _), ((bcell ((Below.refl w.heap.size w).alloc (Nat.le_refl _) _)).1 _ _ (by omega)).trans x3, ((bcell ((Below.refl w.heap.size w).alloc (Nat.le_refl _) _)).1 _ _ (by omega)).trans hcell⟩)
  clear x0 x1 x2 x3 hcell
  refine wp_region_calm (C := (fun w' => Below w.heap.size w w' ∧ w'.cell? ⟨w.heap.size, 1, none⟩ = some (.slice (some ⟨b0, off0, none⟩) n c) ∧ w'.cell? ⟨b0, off0 + k * 4 + 3, none⟩ = some (.int .i64 (pp l k).2.2.2) ∧ w'.cell? ⟨b1, off1 + k, none⟩ = some (.int .i64 (fs[k]?.getD 0)))) (by kernel_rfl) (by kernel_rfl) (X.out) ?_
  repeat
    first
      | go_big_quiet_skip
      | (go_big_quiet_want
         first
           | (unfold Oper.quiet
              apply Exists.intro
              refine ⟨fun wq hq => ?_, ?_⟩
              · (try dsimp only at hq
                 simp [go_sem, Oper.quietAt, Oper.quietUpon, BigFrame.eval_const, BigFrame.eval_global, BigFrame.eval_func, ↓IntWalk.iteOmega, *]
                 first | done | rfl | (refine calm_same hq (i_absOf _ _ (by omega)) rfl))
              simp only [Act.put, List.setIfInBounds_toArray, List.set_cons_succ, List.set_cons_zero]
              go_big_quiet_on))
  refine wpQuiet_nil ?_
  intro wc hcalm
  try dsimp only at hcalm
  have HC := hid hcalm.1
  clear hcalm hw1 hw2
  go_wp2
  go_ret
  exact ⟨rfl, HC.out⟩

/-- What LossOf returns. -/
def lossR (N : Int) (l : List Pip) (fs : List Int) (id : Int) : Int × Bool := if goodNet N l = true ∧ goodFl l.length fs = true ∧ 0 ≤ findQ l id then (loss l fs (findQ l id).toNat, true) else (0, false)

end Go.Proofs.Ytheaagbffphdmaa
