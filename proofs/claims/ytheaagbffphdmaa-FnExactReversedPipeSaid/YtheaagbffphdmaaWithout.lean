/-
  The reference's network without a pipe.
-/
import Derived.Test.YtheaagbffphdmaaNetC
import Derived.Test.YtheaagbffphdmaaReachB
import Derived.Deep.RegionLaw
set_option linter.unusedVariables false
set_option linter.unusedSimpArgs false
namespace Go.Proofs.Ytheaagbffphdmaa
open Go.RowKit

theorem step_append_q {ops : Array Oper} {o : Oper} {a : Act} {K : Act → World → Prop} {Q : Exit → Act → World → Prop} {E : Prop} {w : World} (hgd : o.guard = none) (s x : Operand)
    (ho : o.op = .call { callee := .builtin .append, args := #[s, x], argTypes := #[29, 29] })
    (B : Nat) (v : Value) (l : List Pip) (hs : a.eval s = v) (hown : OwnQ w B v l)
    (ax : Option Addr) (m c : Nat) (l2 : List Pip) (hx : a.eval x = .slice ax m c) (hat : QAt w ax m l2)
    (N : Nat) (hN : l.length + m = N) (hb : N ≤ 1099511627776) (hB : B ≤ w.heap.size)
    (h : ∀ a' c' w', OwnQ w' B (.slice a' N c') (l ++ l2) → w.grownBy w' v.ownBlock → (Value.ownBlock (.slice a' N c') = v.ownBlock ∨ Value.ownBlock (.slice a' N c') = some w.heap.size) → K (a.put o.dst (.slice a' N c')) w') :
    if Region.wanted o (yielded ops a.tmps) = true then Oper.wp Try.prog o a w K Q else E := by
  have hw : Region.wanted o (yielded ops a.tmps) = true := by simp [Region.wanted, hgd]
  rw [if_pos hw]
  obtain ⟨i0, hi, hz0, hz1, hz2⟩ := info_parts Try.infoPipe
  obtain ⟨h1, h2, h3, h4⟩ := hat.cells qf_len qf_one
  cases ax with
  | some ad =>
    obtain ⟨v', w', hrun, k1, k2, _⟩ := run_append_own (P := Try.prog) w B 29 o.type 65 i0 _ 4 32 Try.underlying29 hi hz0 hz1 hz2 rfl (by decide) v l.length _ hown ad m c _ h1 (h3 ad rfl) h4 (by unfold maxLen; omega) (by omega) hB
    have k3 := append_block w B 29 o.type 65 i0 _ 4 32 Try.underlying29 hi hz0 hz1 hz2 v l.length _ hown ad m c _ h1 (h3 ad rfl) h4 (by unfold maxLen; omega) (by omega) hrun
    have ho2 : OwnQ w' B v' (l ++ l2) := OwnS.of_row qf_len (by decide) (n := l.length + m) (by rw [List.flatMap_append]; exact k1)
    obtain ⟨a', c', rfl⟩ := ho2.form
    have e : (l ++ l2).length = N := by rw [List.length_append, hat.1]; exact hN
    rw [e] at ho2 hrun k3
    unfold Oper.wp
    simp [execOp, ho, resolve, invoke, builtin, hs, hx, hrun, Result.andThen]
    exact h a' c' w' ho2 k2 k3
  | none =>
    obtain rfl := h2 rfl
    have hl2 : l2 = [] := List.eq_nil_of_length_eq_zero hat.1
    subst hl2
    have hrun := run_append_none (P := Try.prog) w B 29 o.type 65 i0 4 c Try.underlying29 hi v l.length _ hown
    obtain ⟨a', c', rfl⟩ := hown.form
    obtain rfl : l.length = N := by simpa using hN
    unfold Oper.wp
    simp [execOp, ho, resolve, invoke, builtin, hs, hx, hrun, Result.andThen]
    exact h a' c' w (by simpa using hown) (World.grownBy.refl _ _) (Or.inl rfl)

theorem QAt.take {w : World} {a : Option Addr} {n k : Nat} {l : List Pip} (h : QAt w a n l) (hk : k ≤ n) : QAt w a k (l.take k) :=
  ⟨by have := h.1; simp; omega, fun j hj => by
    obtain ⟨b, off, h1, h2, h3⟩ := h.2 j (by omega)
    refine ⟨b, off, h1, h2, fun i hi => ?_⟩
    rw [h3 i hi, List.getElem?_take, if_pos hj]⟩
theorem QAt.drop {w : World} {g off n k : Nat} {l : List Pip} (h : QAt w (some ⟨g, off, none⟩) n l) (hk : k ≤ n) : QAt w (some ⟨g, off + k * 4, none⟩) (n - k) (l.drop k) :=
  ⟨by have := h.1; simp; omega, fun j hj => by
    obtain ⟨b, o, h1, h2, h3⟩ := h.2 (k + j) (by omega)
    cases h1
    refine ⟨g, off + k * 4, rfl, h2, fun i hi => ?_⟩
    have := h3 i hi
    rw [show off + (k + j) * 4 + i = off + k * 4 + j * 4 + i by omega] at this
    rw [this, List.getElem?_drop]⟩
theorem QAt.nil' (w : World) (a : Option Addr) {l : List Pip} (h : l.length = 0) : QAt w a 0 l := ⟨h, fun k hk => absurd hk (by omega)⟩
theorem own_capQ {w : World} {B n c : Nat} {a : Option Addr} {l : List Pip} (h : OwnQ w B (.slice a n c) l) : n ≤ c := by
  have hl := OwnS.len h
  unfold OwnQ OwnS at h
  rcases h.2 with ⟨h1, h0⟩ | ⟨g, cap, cur, h1, hB, hg, hnc, -⟩
  · simp only [Value.slice.injEq] at h1
    omega
  · simp only [Value.slice.injEq] at h1
    omega
theorem OwnS.drew' {w : World} {B : Nat} {v : Value} {l : List Pip} (h : OwnQ w B v l) : OwnQ w.drew B v l := World.ownsRow.drew h
theorem OwnS.lit0' {w : World} {b : Nat} (h : w.heap.size = b) : OwnQ (w.alloc (.cells #[] 65)) b (.slice (some ⟨b, 0, none⟩) 0 0) [] := by
  subst h
  exact OwnS.lit0 w

set_option maxRecDepth 100000 in
set_option maxHeartbeats 4000000 in
theorem s_l2Without (M : Int) (i : Nat) (a : Option Addr) (n c : Nat) (l : List Pip) (w : World) (h : QAt w a n l) (hn : n ≤ 1000) (hc : n ≤ c) (hi : i < n) :
    Calls Try.prog 109 #[.agg #[.int .i64 M, .slice a n c], .int .i64 i] w fun e w' => ∃ a' c', e = .returned (.agg #[.int .i64 M, .slice a' (n - 1) c']) ∧ OwnQ w' w.heap.size (.slice a' (n - 1) c') (l.eraseIdx i) ∧ Below w.heap.size w w' := by
  obtain ⟨g, off, rfl, -, -⟩ := QAt.get h i hi
  have HL := hid h.1
  have H := hid h
  clear h
  obtain ⟨j, hj⟩ : ∃ j, j = i + 1 := ⟨_, rfl⟩
  have k0 : (0 : Int) ≤ (i : Int) := by omega
  have k3 : (0 : Int) ≤ (j : Int) := by omega
  have hs : (i : Int) + 1 = (j : Int) := by omega
  have hw : IntKind.i64.wrap ((i : Int) + 1) = (j : Int) := by rw [IntWalk.i64_in _ (by omega)]; exact hs
  have hw2 : IntKind.i64.wrap (j : Int) = (j : Int) := IntWalk.i64_in _ (by omega)
  have HJ := hid hj
  have hij : i < j := by omega
  have hjn : j ≤ n := by omega
  clear hj
  by_cases kc : c = j
  · obtain rfl : n = j := by omega
    subst kc
    have k1 : (i : Int) ≤ (c : Int) := by omega
    have k2 : ¬ c = i := by omega
    have k6 : ¬ c = 0 := by omega
    have HD := hid (show ∀ wx, Below w.heap.size w wx → QAt wx (some ⟨g, off, none⟩) 0 (l.drop c) from fun wx hb => QAt.nil' _ _ (by have := HL.out; simp; omega))
    go_enter Try.func109, Try.ntmps109
    go_upto_region 1 with fail
    have BA0 : Below w.heap.size w ((w.alloc (.cells #[.int .i64 M, .slice (some ⟨g, off, none⟩) (c) (c)] 31)).alloc (.cells #[.int .i64 0, .slice none 0 0] 31)) := by go_grown
    have ZA0 : ((w.alloc (.cells #[.int .i64 M, .slice (some ⟨g, off, none⟩) (c) (c)] 31)).alloc (.cells #[.int .i64 0, .slice none 0 0] 31)).heap.size = w.heap.size + 2 := by simp
    have TB0 : ((w.alloc (.cells #[.int .i64 M, .slice (some ⟨g, off, none⟩) (c) (c)] 31)).alloc (.cells #[.int .i64 0, .slice none 0 0] 31)).heap[w.heap.size + 1]? = some (.cells #[.int .i64 0, .slice none 0 0] 31 (0, 0)) := last_new _ _ _ (by simp)
    have TA0 : ((w.alloc (.cells #[.int .i64 M, .slice (some ⟨g, off, none⟩) (c) (c)] 31)).alloc (.cells #[.int .i64 0, .slice none 0 0] 31)).heap[w.heap.size]? = some (.cells #[.int .i64 M, .slice (some ⟨g, off, none⟩) (c) (c)] 31 (0, 0)) := mid_new _ _ _ _ rfl
    generalize (w.alloc (.cells #[.int .i64 M, .slice (some ⟨g, off, none⟩) (c) (c)] 31)).alloc (.cells #[.int .i64 0, .slice none 0 0] 31) = wA at *
    have BA := hid BA0
    have ZA := hid ZA0
    have TA := hid TA0
    have TB := hid TB0
    have KA := hid (show ∀ wx, Below wA.heap.size wA wx → (wx.cell? ⟨w.heap.size, 0, none⟩ = some (.int .i64 M) ∧ wx.cell? ⟨w.heap.size, 1, none⟩ = some (.slice (some ⟨g, off, none⟩) (c) (c))) from fun wx hb => ⟨by rw [hb.cell (p := ⟨w.heap.size, 0, none⟩) (by show w.heap.size < _; omega), cell_of_row wA _ _ _ _ (0, 0) TA0]; rfl, by rw [hb.cell (p := ⟨w.heap.size, 1, none⟩) (by show w.heap.size < _; omega), cell_of_row wA _ _ _ _ (0, 0) TA0]; rfl⟩)
    have n0 : wA.cell? ⟨w.heap.size, 0, none⟩ = some (.int .i64 M) := by rw [cell_of_row wA _ _ _ _ (0, 0) TA0]; rfl
    have n1 : wA.cell? ⟨w.heap.size, 1, none⟩ = some (.slice (some ⟨g, off, none⟩) (c) (c)) := by rw [cell_of_row wA _ _ _ _ (0, 0) TA0]; rfl
    have hzA : w.heap.size < wA.heap.size := by omega
    clear BA0 ZA0 TA0 TB0
    go_region_held3 (fun w' => (w'.cell? ⟨w.heap.size, 0, none⟩ = some (.int .i64 M) ∧ w'.cell? ⟨w.heap.size, 1, none⟩ = some (.slice (some ⟨g, off, none⟩) (c) (c)))) (first | go_keep | exact KA.out _ (by first | assumption | go_grown))
      (first | (refine step_append_q (by rfl) _ _ (by rfl) (wA.heap.size) _ [] (by rfl) (by exact ((OwnS.lit0' rfl).drew')) _ i _ (l.take i) (by rfl) (by exact QAt.take (H.out.below (bstep BA.out (by go_grown))) (by omega)) i (by simp) (by omega) (by simp) ?_; intro a4 c4 w4 h4 g4 b4; have hb4 : Below wA.heap.size wA w4 := Below.grown (by go_grown) g4 (by simp <;> omega) (fun q hq => by cases hq; exact Nat.le_refl _)) | (refine step_append_q (by rfl) _ _ (by rfl) (wA.heap.size) _ ([] ++ l.take i) (by rfl) h4 _ (0) _ (l.drop (c)) (by rfl) (HD.out w4 (bstep BA.out hb4)) (c - 1) (by have := HL.out; simp <;> omega) (by omega) (by exact hb4.size) ?_; intro a11 c11 w11 h11 g11 b11; have hb11 : Below wA.heap.size wA w11 := hb4.grown g11 hb4.size (fun q hq => (h4.lt q hq).1); have y0 : w11.cell? ⟨w.heap.size + 1, 0, none⟩ = some (.int .i64 0) := (by rw [hb11.cell (p := ⟨w.heap.size + 1, 0, none⟩) (by show w.heap.size + 1 < _; have := ZA.out; omega), cell_of_row wA _ _ _ _ (0, 0) TB.out] <;> rfl); have y1 : w11.cell? ⟨w.heap.size + 1, 1, none⟩ = some (.slice none 0 0) := (by rw [hb11.cell (p := ⟨w.heap.size + 1, 1, none⟩) (by show w.heap.size + 1 < _; have := ZA.out; omega), cell_of_row wA _ _ _ _ (0, 0) TB.out] <;> rfl); have f0 : w11.frozen? ⟨w.heap.size + 1, 0, none⟩ = false := (hb11.frozen (p := ⟨w.heap.size + 1, 0, none⟩) (by show w.heap.size + 1 < _; have := ZA.out; omega)).trans (frozen_of_row wA _ 0 _ _ TB.out); have f1 : w11.frozen? ⟨w.heap.size + 1, 1, none⟩ = false := (hb11.frozen (p := ⟨w.heap.size + 1, 1, none⟩) (by show w.heap.size + 1 < _; have := ZA.out; omega)).trans (frozen_of_row wA _ 1 _ _ TB.out); have z1 : w.heap.size + 1 < w11.heap.size := (by have := hb11.size; have := ZA.out; omega)))
    have TR : w11.heap[w.heap.size + 1]? = some (.cells #[.int .i64 0, .slice none 0 0] 31 (0, 0)) := (hb11.block (w.heap.size + 1) (by have := ZA.out; omega)).trans TB.out
    have e7 := heap_setCell_same _ _ 1 _ _ (.slice a11 (c - 1) c11) (heap_setCell_same _ _ 0 _ _ (.int .i64 M) TR)
    have u0 := cell_of_row _ _ 0 _ _ (0, 0) e7
    have u1 := cell_of_row _ _ 1 _ _ (0, 0) e7
    simp only [List.setIfInBounds_toArray, List.set_cons_zero, List.set_cons_succ, List.getElem?_toArray, List.getElem?_cons_zero, List.getElem?_cons_succ] at u0 u1
    have HE := hid (show [] ++ l.take i ++ l.drop (c) = l.eraseIdx i by rw [List.eraseIdx_eq_take_drop_succ, ← HJ.out]; rfl)
    rw [HE.out] at h11
    have HO := hid h11
    have HB := hid hb11
    clear g4 b4 b11 g11 y0 y1 f0 f1 e7 TR h4 hb4 h11 hb11
    go_wp2
    refine bodyPost_ret (v := .agg #[.int .i64 M, .slice a11 (c - 1) c11]) (by simp [results, Try.results109, go_sem, *]) rfl ⟨_, _, rfl, ?_, ?_⟩
    · exact ((HO.out.far (by have := ZA.out; omega)).far (by have := ZA.out; omega)).mono (by have := ZA.out; omega)
    · exact ((bstep BA.out HB.out).setCell (by show w.heap.size ≤ w.heap.size + 1; omega) _).setCell (by show w.heap.size ≤ w.heap.size + 1; omega) _
  · have k1 : (i : Int) ≤ (c : Int) := by omega
    have k2 : ¬ c = i := by omega
    have k4 : (j : Int) ≤ (n : Int) := by omega
    have k5 : (n : Int) ≤ (c : Int) := by omega
    have k6 : ¬ c = 0 := by omega
    have HD := hid (show ∀ wx, Below w.heap.size w wx → QAt wx (some ⟨g, off + j * 4, none⟩) (n - j) (l.drop j) from fun wx hb => QAt.drop (H.out.below hb) (by omega))
    go_enter Try.func109, Try.ntmps109
    go_upto_region 1 with fail
    have BA0 : Below w.heap.size w ((w.alloc (.cells #[.int .i64 M, .slice (some ⟨g, off, none⟩) (n) (c)] 31)).alloc (.cells #[.int .i64 0, .slice none 0 0] 31)) := by go_grown
    have ZA0 : ((w.alloc (.cells #[.int .i64 M, .slice (some ⟨g, off, none⟩) (n) (c)] 31)).alloc (.cells #[.int .i64 0, .slice none 0 0] 31)).heap.size = w.heap.size + 2 := by simp
    have TB0 : ((w.alloc (.cells #[.int .i64 M, .slice (some ⟨g, off, none⟩) (n) (c)] 31)).alloc (.cells #[.int .i64 0, .slice none 0 0] 31)).heap[w.heap.size + 1]? = some (.cells #[.int .i64 0, .slice none 0 0] 31 (0, 0)) := last_new _ _ _ (by simp)
    have TA0 : ((w.alloc (.cells #[.int .i64 M, .slice (some ⟨g, off, none⟩) (n) (c)] 31)).alloc (.cells #[.int .i64 0, .slice none 0 0] 31)).heap[w.heap.size]? = some (.cells #[.int .i64 M, .slice (some ⟨g, off, none⟩) (n) (c)] 31 (0, 0)) := mid_new _ _ _ _ rfl
    generalize (w.alloc (.cells #[.int .i64 M, .slice (some ⟨g, off, none⟩) (n) (c)] 31)).alloc (.cells #[.int .i64 0, .slice none 0 0] 31) = wA at *
    have BA := hid BA0
    have ZA := hid ZA0
    have TA := hid TA0
    have TB := hid TB0
    have KA := hid (show ∀ wx, Below wA.heap.size wA wx → (wx.cell? ⟨w.heap.size, 0, none⟩ = some (.int .i64 M) ∧ wx.cell? ⟨w.heap.size, 1, none⟩ = some (.slice (some ⟨g, off, none⟩) (n) (c))) from fun wx hb => ⟨by rw [hb.cell (p := ⟨w.heap.size, 0, none⟩) (by show w.heap.size < _; omega), cell_of_row wA _ _ _ _ (0, 0) TA0]; rfl, by rw [hb.cell (p := ⟨w.heap.size, 1, none⟩) (by show w.heap.size < _; omega), cell_of_row wA _ _ _ _ (0, 0) TA0]; rfl⟩)
    have n0 : wA.cell? ⟨w.heap.size, 0, none⟩ = some (.int .i64 M) := by rw [cell_of_row wA _ _ _ _ (0, 0) TA0]; rfl
    have n1 : wA.cell? ⟨w.heap.size, 1, none⟩ = some (.slice (some ⟨g, off, none⟩) (n) (c)) := by rw [cell_of_row wA _ _ _ _ (0, 0) TA0]; rfl
    have hzA : w.heap.size < wA.heap.size := by omega
    clear BA0 ZA0 TA0 TB0
    go_region_held3 (fun w' => (w'.cell? ⟨w.heap.size, 0, none⟩ = some (.int .i64 M) ∧ w'.cell? ⟨w.heap.size, 1, none⟩ = some (.slice (some ⟨g, off, none⟩) (n) (c)))) (first | go_keep | exact KA.out _ (by first | assumption | go_grown))
      (first | (refine step_append_q (by rfl) _ _ (by rfl) (wA.heap.size) _ [] (by rfl) (by exact ((OwnS.lit0' rfl).drew')) _ i _ (l.take i) (by rfl) (by exact QAt.take (H.out.below (bstep BA.out (by go_grown))) (by omega)) i (by simp) (by omega) (by simp) ?_; intro a4 c4 w4 h4 g4 b4; have hb4 : Below wA.heap.size wA w4 := Below.grown (by go_grown) g4 (by simp <;> omega) (fun q hq => by cases hq; exact Nat.le_refl _)) | (refine step_append_q (by rfl) _ _ (by rfl) (wA.heap.size) _ ([] ++ l.take i) (by rfl) h4 _ (n - j) _ (l.drop (j)) (by rfl) (HD.out w4 (bstep BA.out hb4)) (n - 1) (by have := HL.out; simp <;> omega) (by omega) (by exact hb4.size) ?_; intro a11 c11 w11 h11 g11 b11; have hb11 : Below wA.heap.size wA w11 := hb4.grown g11 hb4.size (fun q hq => (h4.lt q hq).1); have y0 : w11.cell? ⟨w.heap.size + 1, 0, none⟩ = some (.int .i64 0) := (by rw [hb11.cell (p := ⟨w.heap.size + 1, 0, none⟩) (by show w.heap.size + 1 < _; have := ZA.out; omega), cell_of_row wA _ _ _ _ (0, 0) TB.out] <;> rfl); have y1 : w11.cell? ⟨w.heap.size + 1, 1, none⟩ = some (.slice none 0 0) := (by rw [hb11.cell (p := ⟨w.heap.size + 1, 1, none⟩) (by show w.heap.size + 1 < _; have := ZA.out; omega), cell_of_row wA _ _ _ _ (0, 0) TB.out] <;> rfl); have f0 : w11.frozen? ⟨w.heap.size + 1, 0, none⟩ = false := (hb11.frozen (p := ⟨w.heap.size + 1, 0, none⟩) (by show w.heap.size + 1 < _; have := ZA.out; omega)).trans (frozen_of_row wA _ 0 _ _ TB.out); have f1 : w11.frozen? ⟨w.heap.size + 1, 1, none⟩ = false := (hb11.frozen (p := ⟨w.heap.size + 1, 1, none⟩) (by show w.heap.size + 1 < _; have := ZA.out; omega)).trans (frozen_of_row wA _ 1 _ _ TB.out); have z1 : w.heap.size + 1 < w11.heap.size := (by have := hb11.size; have := ZA.out; omega)))
    have TR : w11.heap[w.heap.size + 1]? = some (.cells #[.int .i64 0, .slice none 0 0] 31 (0, 0)) := (hb11.block (w.heap.size + 1) (by have := ZA.out; omega)).trans TB.out
    have e7 := heap_setCell_same _ _ 1 _ _ (.slice a11 (n - 1) c11) (heap_setCell_same _ _ 0 _ _ (.int .i64 M) TR)
    have u0 := cell_of_row _ _ 0 _ _ (0, 0) e7
    have u1 := cell_of_row _ _ 1 _ _ (0, 0) e7
    simp only [List.setIfInBounds_toArray, List.set_cons_zero, List.set_cons_succ, List.getElem?_toArray, List.getElem?_cons_zero, List.getElem?_cons_succ] at u0 u1
    have HE := hid (show [] ++ l.take i ++ l.drop (j) = l.eraseIdx i by rw [List.eraseIdx_eq_take_drop_succ, ← HJ.out]; rfl)
    rw [HE.out] at h11
    have HO := hid h11
    have HB := hid hb11
    clear g4 b4 b11 g11 y0 y1 f0 f1 e7 TR h4 hb4 h11 hb11
    go_wp2
    refine bodyPost_ret (v := .agg #[.int .i64 M, .slice a11 (n - 1) c11]) (by simp [results, Try.results109, go_sem, *]) rfl ⟨_, _, rfl, ?_, ?_⟩
    · exact ((HO.out.far (by have := ZA.out; omega)).far (by have := ZA.out; omega)).mono (by have := ZA.out; omega)
    · exact ((bstep BA.out HB.out).setCell (by show w.heap.size ≤ w.heap.size + 1; omega) _).setCell (by show w.heap.size ≤ w.heap.size + 1; omega) _

end Go.Proofs.Ytheaagbffphdmaa
