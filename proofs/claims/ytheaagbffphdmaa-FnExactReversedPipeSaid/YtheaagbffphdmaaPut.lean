/-
  The reference's own way to put a number into an ascending list.
-/
import Derived.Test.YtheaagbffphdmaaReachA
import Derived.Deep.RegionLaw
set_option linter.unusedVariables false
set_option linter.unusedSimpArgs false
namespace Go.Proofs.Ytheaagbffphdmaa
open Go.RowKit

theorem step_append_ints {ops : Array Oper} {o : Oper} {a : Act} {K : Act → World → Prop} {Q : Exit → Act → World → Prop} {E : Prop} {w : World} (hgd : o.guard = none) (s x : Operand)
    (ho : o.op = .call { callee := .builtin .append, args := #[s, x], argTypes := #[25, 25] })
    (B : Nat) (v : Value) (l : List Int) (hs : a.eval s = v) (hown : OwnI w B v l)
    (ax : Option Addr) (m c : Nat) (l2 : List Int) (hx : a.eval x = .slice ax m c) (hat : IntsAt w ax m l2)
    (N : Nat) (hN : l.length + m = N) (hb : N ≤ 1099511627776) (hB : B ≤ w.heap.size)
    (h : ∀ a' c' w', OwnI w' B (.slice a' N c') (l ++ l2) → w.grownBy w' v.ownBlock → (Value.ownBlock (.slice a' N c') = v.ownBlock ∨ Value.ownBlock (.slice a' N c') = some w.heap.size) → K (a.put o.dst (.slice a' N c')) w') :
    if Region.wanted o (yielded ops a.tmps) = true then Oper.wp Try.prog o a w K Q else E := by
  have hw : Region.wanted o (yielded ops a.tmps) = true := by simp [Region.wanted, hgd]
  rw [if_pos hw]
  obtain ⟨i0, hi, hz0, hz1, hz2⟩ := info_parts Try.infoInt
  obtain ⟨h1, h2, h3, h4⟩ := hat.cells
  cases ax with
  | some ad =>
    obtain ⟨v', w', hrun, k1, k2, _⟩ := run_append_own (P := Try.prog) w B 25 o.type 3 i0 (.int .i64 0) 1 8 Try.underlying25 hi hz0 hz1 hz2 rfl (by decide) v l.length _ hown ad m c _ h1 (h3 ad rfl) h4 (by unfold maxLen; omega) (by omega) hB
    have k3 := append_block w B 25 o.type 3 i0 (.int .i64 0) 1 8 Try.underlying25 hi hz0 hz1 hz2 v l.length _ hown ad m c _ h1 (h3 ad rfl) h4 (by unfold maxLen; omega) (by omega) hrun
    have ho2 : OwnI w' B v' (l ++ l2) := OwnI.of_row (n := l.length + m) (by rw [List.map_append]; exact k1)
    obtain ⟨a', c', rfl⟩ := ho2.form
    have e : (l ++ l2).length = N := by rw [List.length_append, hat.1]; exact hN
    rw [e] at ho2 hrun k3
    unfold Oper.wp
    simp [execOp, ho, resolve, invoke, builtin, hs, hx, hrun, Result.andThen]
    exact h a' c' w' ho2 k2 k3
  | none =>
    obtain rfl := h2 rfl
    have hl2 : l2 = [] := List.eq_nil_of_length_eq_zero hat.1
    subst hl2
    have hrun := run_append_none (P := Try.prog) w B 25 o.type 3 i0 1 c Try.underlying25 hi v l.length _ hown
    obtain ⟨a', c', rfl⟩ := hown.form
    obtain rfl : l.length = N := by simpa using hN
    unfold Oper.wp
    simp [execOp, ho, resolve, invoke, builtin, hs, hx, hrun, Result.andThen]
    exact h a' c' w (by simpa using hown) (World.grownBy.refl _ _) (Or.inl rfl)

theorem IntsAt.take {w : World} {a : Option Addr} {n k : Nat} {l : List Int} (h : IntsAt w a n l) (hk : k ≤ n) : IntsAt w a k (l.take k) :=
  ⟨by have := h.1; simp; omega, fun j hj => by
    obtain ⟨b, off, h1, h2, h3⟩ := h.2 j (by omega)
    refine ⟨b, off, h1, h2, ?_⟩
    rw [h3, List.getElem?_take, if_pos hj]⟩
theorem IntsAt.drop {w : World} {g off n k : Nat} {l : List Int} (h : IntsAt w (some ⟨g, off, none⟩) n l) (hk : k ≤ n) : IntsAt w (some ⟨g, off + k, none⟩) (n - k) (l.drop k) :=
  ⟨by have := h.1; simp; omega, fun j hj => by
    obtain ⟨b, o, h1, h2, h3⟩ := h.2 (k + j) (by omega)
    cases h1
    refine ⟨g, off + k, rfl, h2, ?_⟩
    rw [Nat.add_assoc, h3, List.getElem?_drop]⟩
theorem IntsAt.nil' (w : World) (a : Option Addr) {l : List Int} (h : l.length = 0) : IntsAt w a 0 l := ⟨h, fun k hk => absurd hk (by omega)⟩
theorem IntsAt.drew {w : World} {a : Option Addr} {n : Nat} {l : List Int} (h : IntsAt w a n l) : IntsAt w.drew a n l := h.below ((Below.refl _ _).drew)
theorem OwnI.drew {w : World} {B : Nat} {v : Value} {l : List Int} (h : OwnI w B v l) : OwnI w.drew B v l := World.ownsRow.drew h
theorem IntsAt.single' {w : World} {b : Nat} (h : w.heap.size = b) (x : Int) : IntsAt (w.alloc (.cells #[.int .i64 x] 3)) (some ⟨b, 0, none⟩) 1 [x] := by
  subst h
  exact IntsAt.single w x
theorem OwnI.lit0' {w : World} {b : Nat} (h : w.heap.size = b) : OwnI (w.alloc (.cells #[] 3)) b (.slice (some ⟨b, 0, none⟩) 0 0) [] := by
  subst h
  exact OwnI.lit0 w
theorem IntsAt.alloc {w : World} {a : Option Addr} {n : Nat} {l : List Int} (h : IntsAt w a n l) (o : Obj) : IntsAt (w.alloc o) a n l := h.below ((Below.refl _ _).alloc (Nat.le_refl _) _)

set_option maxHeartbeats 1000000 in
theorem s_l1Put_in (g n c : Nat) (x : Int) (l : List Int) (w : World) (h : IntsAt w (some ⟨g, 0, none⟩) n l) (hn : n ≤ 1000) (ha : Asc l) (hx : x ∈ l) :
    Calls Try.prog 106 #[.slice (some ⟨g, 0, none⟩) n c, .int .i64 x] w fun e w' => e = .returned (.slice (some ⟨g, 0, none⟩) n c) ∧ w = w' := by
  have H := hid h
  have HL := hid h.1
  have HA := hid ha
  have HX := hid hx
  clear h ha hx
  go_enter Try.func106, Try.ntmps106
  go_wp2
  go_loopg [5] n (fun g' i wr => ∃ k : Nat, k ≤ n ∧ g' = n - k ∧ i = .int .i64 k ∧ w = wr ∧ Hid (∀ j, j < k → l[j]?.getD 0 < x))
  case atStart => exact ⟨0, Nat.zero_le _, rfl, rfl, rfl, hid (fun j hj => absurd hj (by omega))⟩
  case round =>
    obtain ⟨k, hk, rfl, rfl, rfl, hh⟩ := hrel
    by_cases hlt : k < n
    · obtain ⟨b, off, e0, hbw, hcell⟩ := H.out.2 k hlt
      cases e0
      rw [Nat.zero_add] at hcell
      by_cases he : l[k]?.getD 0 < x
      · go_wp2
        go_roundg (n - (k + 1))
        case rel =>
          refine ⟨k + 1, by omega, rfl, by go_num, rfl, hid (fun j hj => ?_)⟩
          by_cases e : j = k
          · subst e; exact he
          · exact hh.out j (by omega)
        case measure => omega
      · have hq := (asc_at HA.out HX.out (by have := HL.out; omega) hh.out (fun _ => he)).2
        have h1 : l[k]?.getD 0 ≤ x := by omega
        have h2 : x ≤ l[k]?.getD 0 := by omega
        clear hq
        go_wp2
        go_ret
        exact ⟨rfl, rfl⟩
    · have hq := (asc_at HA.out HX.out (by have := HL.out; omega) hh.out (fun h => absurd h (by have := HL.out; omega))).1
      have := HL.out
      omega

set_option maxRecDepth 100000 in
set_option maxHeartbeats 4000000 in
theorem s_l1Put_new (g n c : Nat) (x : Int) (l : List Int) (w : World) (h : IntsAt w (some ⟨g, 0, none⟩) n l) (hn : n ≤ 1000) (hc : n ≤ c) (h0 : 0 < n) (hx : x ∉ l) :
    Calls Try.prog 106 #[.slice (some ⟨g, 0, none⟩) n c, .int .i64 x] w fun e w' => ∃ a' c', e = .returned (.slice a' (n + 1) c') ∧ OwnI w' w.heap.size (.slice a' (n + 1) c') (ins x l) ∧ Below w.heap.size w w' := by
  have H := hid h
  have HL := hid h.1
  have HX := hid hx
  clear h hx
  go_enter Try.func106, Try.ntmps106
  go_wp2
  go_loopg [5] n (fun g' i wr => ∃ k : Nat, k ≤ n ∧ g' = n - k ∧ i = .int .i64 k ∧ w = wr ∧ Hid (∀ j, j < k → l[j]?.getD 0 < x))
  case atStart => exact ⟨0, Nat.zero_le _, rfl, rfl, rfl, hid (fun j hj => absurd hj (by omega))⟩
  case round =>
    obtain ⟨k, hk, rfl, rfl, rfl, hh⟩ := hrel
    by_cases hlt : k < n
    · obtain ⟨b, off, e0, hbw, hcell⟩ := H.out.2 k hlt
      cases e0
      rw [Nat.zero_add] at hcell
      by_cases he : l[k]?.getD 0 < x
      · go_wp2
        go_roundg (n - (k + 1))
        case rel =>
          refine ⟨k + 1, by omega, rfl, by go_num, rfl, hid (fun j hj => ?_)⟩
          by_cases e : j = k
          · subst e; exact he
          · exact hh.out j (by omega)
        case measure => omega
      · have HQ := hid (show k < l.length → ¬ l[k]?.getD 0 < x from fun _ => he)
        have HD := hid (show ∀ wx, Below w.heap.size w wx → IntsAt wx (some ⟨g, k, none⟩) (n - k) (l.drop k) from fun wx hb => by have := ((H.out.below hb).drop hk); simpa using this)
        have h1 : x < l[k]?.getD 0 := by
          have : l[k]?.getD 0 ≠ x := fun e => HX.out (e ▸ getD_mem' (k := k) (by have := HL.out; omega))
          omega
        have k0 : (0 : Int) ≤ (k : Int) := by omega
        have k1 : (k : Int) ≤ (n : Int) := by omega
        have k2 : (k : Int) ≤ (c : Int) := by omega
        have k3 : ¬ c = k := by omega
        have k4 : ¬ c = 0 := by omega
        clear he
        go_upto_region 6 with fail
        go_region_law (first | (refine step_append_ints (by rfl) _ _ (by rfl) (w.heap.size) _ [] (by rfl) (by first | exact ((OwnI.lit0 _).mono (by simp)).drew | exact (((OwnI.lit0 _).mono (by simp)).alloc _).drew | exact ((OwnI.lit0' (by simp)).mono (by simp)).drew) _ k _ (l.take k) (by rfl) (by exact IntsAt.take (H.out.below (by go_grown)) hk) k (by simp) (by omega) (by simp <;> omega) ?_; intro a4 c4 w4 h4 g4 b4; have hb4 : Below w.heap.size w w4 := Below.grown (by go_grown) g4 (by simp <;> omega) (fun q hq => by cases hq; first | exact Nat.le_refl _ | exact Nat.le_succ _)) | (refine step_append_ints (by rfl) _ _ (by rfl) (w.heap.size) _ ([] ++ l.take k) (by rfl) (by first | exact h4 | exact h4.alloc _) _ 1 _ [x] (by rfl) (by first | exact IntsAt.single _ _ | exact ((IntsAt.single' (by simp) _).drew).kept g4 (fun b off e => by cases e; exact fun h => absurd (Option.some.inj h) (by simp <;> omega)) | exact (((IntsAt.single _ _).alloc _).drew).kept g4 (fun b off e => by cases e; exact fun h => absurd (Option.some.inj h) (by simp <;> omega))) (k + 1) (by have := HL.out; simp; omega) (by omega) (by have := hb4.size; simp; omega) ?_; intro a7 c7 w7 h7 g7 b7; have hb7 : Below w.heap.size w w7 := by first | exact hb4.grown g7 hb4.size (fun q hq => (h4.lt q hq).1) | exact (hb4.alloc hb4.size _).grown g7 (by have := hb4.size; simp; omega) (fun q hq => (h4.lt q hq).1)) | (refine step_append_ints (by rfl) _ _ (by rfl) (w.heap.size) _ (([] ++ l.take k) ++ [x]) (by rfl) h7 _ (n - k) _ (l.drop k) (by rfl) (HD.out w7 hb7) (n + 1) (by have := HL.out; simp; omega) (by omega) (by exact hb7.size) ?_; intro a11 c11 w11 h11 g11 b11; have hb11 : Below w.heap.size w w11 := hb7.grown g11 hb7.size (fun q hq => (h7.lt q hq).1)))
        all_goals
          go_wp2
          go_ret
          refine ⟨_, _, rfl, ?_, hb11⟩
          rw [ins_cut l k (by have := HL.out; omega) hh.out (fun h => by have := HQ.out h; omega)]
          simpa using h11
    · obtain rfl : k = n := by omega
      have HQ := hid (show k < l.length → ¬ l[k]?.getD 0 < x from fun h => absurd h (by have := HL.out; omega))
      have k0 : (0 : Int) ≤ (k : Int) := by omega
      have k2 : (k : Int) ≤ (c : Int) := by omega
      have k4 : ¬ c = 0 := by omega
      have kz : k - k = 0 := by omega
      by_cases k3 : c = k
      · subst k3
        have HD := hid (show ∀ wx, Below w.heap.size w wx → IntsAt wx (some ⟨g, 0, none⟩) 0 (l.drop c) from fun wx hb => by exact IntsAt.nil' _ _ (by have := HL.out; simp; omega))
        go_upto_region 6 with fail
        go_region_law (first | (refine step_append_ints (by rfl) _ _ (by rfl) (w.heap.size) _ [] (by rfl) (by first | exact ((OwnI.lit0 _).mono (by simp)).drew | exact (((OwnI.lit0 _).mono (by simp)).alloc _).drew | exact ((OwnI.lit0' (by simp)).mono (by simp)).drew) _ c _ (l.take c) (by rfl) (by exact IntsAt.take (H.out.below (by go_grown)) hk) c (by simp) (by omega) (by simp <;> omega) ?_; intro a4 c4 w4 h4 g4 b4; have hb4 : Below w.heap.size w w4 := Below.grown (by go_grown) g4 (by simp <;> omega) (fun q hq => by cases hq; first | exact Nat.le_refl _ | exact Nat.le_succ _)) | (refine step_append_ints (by rfl) _ _ (by rfl) (w.heap.size) _ ([] ++ l.take c) (by rfl) (by first | exact h4 | exact h4.alloc _) _ 1 _ [x] (by rfl) (by first | exact IntsAt.single _ _ | exact ((IntsAt.single' (by simp) _).drew).kept g4 (fun b off e => by cases e; exact fun h => absurd (Option.some.inj h) (by simp <;> omega)) | exact (((IntsAt.single _ _).alloc _).drew).kept g4 (fun b off e => by cases e; exact fun h => absurd (Option.some.inj h) (by simp <;> omega))) (c + 1) (by have := HL.out; simp; omega) (by omega) (by have := hb4.size; simp; omega) ?_; intro a7 c7 w7 h7 g7 b7; have hb7 : Below w.heap.size w w7 := by first | exact hb4.grown g7 hb4.size (fun q hq => (h4.lt q hq).1) | exact (hb4.alloc hb4.size _).grown g7 (by have := hb4.size; simp; omega) (fun q hq => (h4.lt q hq).1)) | (refine step_append_ints (by rfl) _ _ (by rfl) (w.heap.size) _ (([] ++ l.take c) ++ [x]) (by rfl) h7 _ (0) _ (l.drop c) (by rfl) (HD.out w7 hb7) (c + 1) (by have := HL.out; simp; omega) (by omega) (by exact hb7.size) ?_; intro a11 c11 w11 h11 g11 b11; have hb11 : Below w.heap.size w w11 := hb7.grown g11 hb7.size (fun q hq => (h7.lt q hq).1)))
        all_goals
          go_wp2
          go_ret
          refine ⟨_, _, rfl, ?_, hb11⟩
          rw [ins_cut l c (by have := HL.out; omega) hh.out (fun h => by have := HQ.out h; omega)]
          simpa using h11
      · have HD := hid (show ∀ wx, Below w.heap.size w wx → IntsAt wx (some ⟨g, k, none⟩) 0 (l.drop k) from fun wx hb => by exact IntsAt.nil' _ _ (by have := HL.out; simp; omega))
        go_upto_region 6 with fail
        go_region_law (first | (refine step_append_ints (by rfl) _ _ (by rfl) (w.heap.size) _ [] (by rfl) (by first | exact ((OwnI.lit0 _).mono (by simp)).drew | exact (((OwnI.lit0 _).mono (by simp)).alloc _).drew | exact ((OwnI.lit0' (by simp)).mono (by simp)).drew) _ k _ (l.take k) (by rfl) (by exact IntsAt.take (H.out.below (by go_grown)) hk) k (by simp) (by omega) (by simp <;> omega) ?_; intro a4 c4 w4 h4 g4 b4; have hb4 : Below w.heap.size w w4 := Below.grown (by go_grown) g4 (by simp <;> omega) (fun q hq => by cases hq; first | exact Nat.le_refl _ | exact Nat.le_succ _)) | (refine step_append_ints (by rfl) _ _ (by rfl) (w.heap.size) _ ([] ++ l.take k) (by rfl) (by first | exact h4 | exact h4.alloc _) _ 1 _ [x] (by rfl) (by first | exact IntsAt.single _ _ | exact ((IntsAt.single' (by simp) _).drew).kept g4 (fun b off e => by cases e; exact fun h => absurd (Option.some.inj h) (by simp <;> omega)) | exact (((IntsAt.single _ _).alloc _).drew).kept g4 (fun b off e => by cases e; exact fun h => absurd (Option.some.inj h) (by simp <;> omega))) (k + 1) (by have := HL.out; simp; omega) (by omega) (by have := hb4.size; simp; omega) ?_; intro a7 c7 w7 h7 g7 b7; have hb7 : Below w.heap.size w w7 := by first | exact hb4.grown g7 hb4.size (fun q hq => (h4.lt q hq).1) | exact (hb4.alloc hb4.size _).grown g7 (by have := hb4.size; simp; omega) (fun q hq => (h4.lt q hq).1)) | (refine step_append_ints (by rfl) _ _ (by rfl) (w.heap.size) _ (([] ++ l.take k) ++ [x]) (by rfl) h7 _ (0) _ (l.drop k) (by rfl) (HD.out w7 hb7) (k + 1) (by have := HL.out; simp; omega) (by omega) (by exact hb7.size) ?_; intro a11 c11 w11 h11 g11 b11; have hb11 : Below w.heap.size w w11 := hb7.grown g11 hb7.size (fun q hq => (h7.lt q hq).1)))
        all_goals
          go_wp2
          go_ret
          refine ⟨_, _, rfl, ?_, hb11⟩
          rw [ins_cut l k (by have := HL.out; omega) hh.out (fun h => by have := HQ.out h; omega)]
          simpa using h11

end Go.Proofs.Ytheaagbffphdmaa
