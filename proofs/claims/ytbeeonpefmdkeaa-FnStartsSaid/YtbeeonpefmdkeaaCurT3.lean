/-
  The draw of a day and a number of days.
-/
import Derived.Test.YtbeeonpefmdkeaaCurT2
set_option linter.unusedVariables false
set_option linter.unusedSimpArgs false
namespace Go.Proofs.Ytbeeonpefmdkeaa
open Go.RowKit

theorem own_old {v : Value} {g Z : Nat} (hl : ∀ k, v.ownBlock = some k → k < Z) (hg : Z ≤ g) : v.ownBlock = none ∨ v.ownBlock ≠ some g := by
  cases e : v.ownBlock with
  | none => exact .inl rfl
  | some k => exact .inr (fun e2 => by have h1 := hl k e; have := Option.some.inj e2; omega)

set_option maxHeartbeats 4000000 in
theorem s_DrawRepeatDay (a : Option Addr) (n c : Nat) (w : World) (h : BytesAt w a n) :
    Calls Try.prog 45 #[.slice a n c] w fun e w' => ∃ (x y z d : Int) (a1 a2 : Option Addr) (n1 n2 c1 c2 : Nat) (l1 l2 : List Int), e = .returned (.tuple #[.agg #[.int .i64 x, .int .i64 y, .int .i64 z], .slice a1 n1 c1, .slice a2 n2 c2, .int .i64 d]) ∧ OwnI w' w.heap.size (.slice a1 n1 c1) l1 ∧ OwnI w' w.heap.size (.slice a2 n2 c2) l2 ∧ n1 ≤ 14 ∧ n2 ≤ 14 ∧ Below w.heap.size w w' := by
  have H := hid h
  clear h
  go_enter Try.func45, Try.ntmps45
  have T0 := hid (heap_alloc_new w (.cells #[.int .i64 0, .int .i64 0, .int .i64 0] 25))
  have B0 := hid (by go_grown : Below w.heap.size w (w.alloc (.cells #[.int .i64 0, .int .i64 0, .int .i64 0] 25)))
  have hz0 : (w.alloc (.cells #[.int .i64 0, .int .i64 0, .int .i64 0] 25)).heap.size = w.heap.size + 1 := by simp
  go_upto_region 1 with fail
  generalize w.alloc (.cells #[.int .i64 0, .int .i64 0, .int .i64 0] 25) = w0 at *
  go_wp2_with fail
  refine (s_DrawRunTankO _ _ _ _ (H.out.below B0.out)).mono ?_
  rintro e w1 ⟨x, y, z, a1, a2, n1, n2, c1, c2, l1, l2, rfl, hi1, hi2, h1, h2, hb⟩
  have B1 := hid (bstep B0.out hb)
  have T1 := hid ((hb.block w.heap.size (by omega)).trans T0.out)
  have hz1 := hb.size
  have HI1 := hid (hi1.alloc (.cells #[.int .i64 x, .int .i64 y, .int .i64 z] 25))
  have HI2 := hid (hi2.alloc (.cells #[.int .i64 x, .int .i64 y, .int .i64 z] 25))
  have HB := hid (H.out.below (bstep B1.out (by go_grown) : Below w.heap.size w (w1.alloc (.cells #[.int .i64 x, .int .i64 y, .int .i64 z] 25))))
  have hz2 : (w1.alloc (.cells #[.int .i64 x, .int .i64 y, .int .i64 z] 25)).heap.size = w1.heap.size + 1 := by simp
  have W2 := hid (show Cur ((w1.alloc (.cells #[.int .i64 x, .int .i64 y, .int .i64 z] 25)).alloc (.cells #[.slice a n c, .int .i64 0, .int .u64 0] 80)) (w1.heap.size + 1) 0 ∧ OwnI ((w1.alloc (.cells #[.int .i64 x, .int .i64 y, .int .i64 z] 25)).alloc (.cells #[.slice a n c, .int .i64 0, .int .u64 0] 80)) w0.heap.size (.slice a1 n1 c1) l1 ∧ OwnI ((w1.alloc (.cells #[.int .i64 x, .int .i64 y, .int .i64 z] 25)).alloc (.cells #[.slice a n c, .int .i64 0, .int .u64 0] 80)) w0.heap.size (.slice a2 n2 c2) l2 ∧ Below w.heap.size w ((w1.alloc (.cells #[.int .i64 x, .int .i64 y, .int .i64 z] 25)).alloc (.cells #[.slice a n c, .int .i64 0, .int .u64 0] 80)) ∧ ((w1.alloc (.cells #[.int .i64 x, .int .i64 y, .int .i64 z] 25)).alloc (.cells #[.slice a n c, .int .i64 0, .int .u64 0] 80)).heap[w.heap.size]? = some (.cells #[.int .i64 0, .int .i64 0, .int .i64 0] 25 (0, 0)) ∧ ((w1.alloc (.cells #[.int .i64 x, .int .i64 y, .int .i64 z] 25)).alloc (.cells #[.slice a n c, .int .i64 0, .int .u64 0] 80)).heap[w1.heap.size]? = some (.cells #[.int .i64 x, .int .i64 y, .int .i64 z] 25 (0, 0)) from
    ⟨Cur.start HB.out hz2.symm, HI1.out.alloc _, HI2.out.alloc _, bstep B1.out (by go_grown), by rw [Below.heap_alloc _ _ _ (by simp <;> omega), Below.heap_alloc _ _ _ (by omega)]; exact T1.out, mid_new _ _ _ _ rfl⟩)
  have hz3 : ((w1.alloc (.cells #[.int .i64 x, .int .i64 y, .int .i64 z] 25)).alloc (.cells #[.slice a n c, .int .i64 0, .int .u64 0] 80)).heap.size = w1.heap.size + 2 := by simp
  have HL1 := hid (fun k hk => (hi1.lt k hk).2)
  have HL2 := hid (fun k hk => (hi2.lt k hk).2)
  clear hi1 hi2 hb HI1 HI2 HB T1 T0 B1
  go_upto_region 3 with fail
  generalize (w1.alloc (.cells #[.int .i64 x, .int .i64 y, .int .i64 z] 25)).alloc (.cells #[.slice a n c, .int .i64 0, .int .u64 0] 80) = w2 at *
  have hz4 : w1.heap.size + 2 ≤ w2.heap.size := by omega
  obtain ⟨m0, m1, m2⟩ := three_of W2.out.2.2.2.2.2
  have hzz : w.heap.size < w2.heap.size := by omega
  have hzz3 : w1.heap.size < w2.heap.size := by omega
  have hne : ¬ w.heap.size = w1.heap.size := by omega
  have hne2 : ¬ w1.heap.size = w.heap.size := by omega
  have HK := hid (fun wx (hb : Below w2.heap.size w2 wx) => three_of ((hb.block w1.heap.size hzz3).trans W2.out.2.2.2.2.2))
  clear hz3 hz2
  first
    | (go_region_with (go_at_call 72; refine (c_among (w1.heap.size + 1) 0 w2.heap.size 7 7 [0, 1, 2, 5, 20, 21, -1] _ (W2.out.1.below (by go_grown)) (by omega) ((IntsAt.lit' w2 3 [0, 1, 2, 5, 20, 21, -1] rfl rfl).below ((Below.refl _ _).drew)) (by omega) (by omega) (by omega)).mono ?_; rintro e w5 ⟨⟨d, rfl, hd⟩, hc5, hg5⟩; have hG : w2.grownBy w5 (some (w1.heap.size + 1)) := grownBy_trans (grown_of_below (Below.drew (by go_grown : Below w2.heap.size w2 (w2.alloc (.cells #[.int .i64 0, .int .i64 1, .int .i64 2, .int .i64 5, .int .i64 20, .int .i64 21, .int .i64 (-1)] 3)))) _) hg5; obtain ⟨p0, p1, p2⟩ := three_of ((hG.block w1.heap.size hzz3 (by simp <;> omega)).trans W2.out.2.2.2.2.2); obtain ⟨r0, r1, r2⟩ := three_of ((hG.block w.heap.size hzz (by simp <;> omega)).trans W2.out.2.2.2.2.1); have fb := (fun j => frozen_of_row w5 w.heap.size j _ _ ((hG.block w.heap.size hzz (by simp <;> omega)).trans W2.out.2.2.2.2.1)); have hzz5 : w.heap.size < w5.heap.size := (by have := hG.size; omega); have hzz6 : w1.heap.size < w5.heap.size := (by have := hG.size; omega)))
    | fail
  all_goals
    have HG5 := hid hG
    have HO1 := hid (W2.out.2.1.kept hG (own_old HL1.out (by omega)))
    have HO2 := hid (W2.out.2.2.1.kept hG (own_old HL2.out (by omega)))
    have HBB := hid (W2.out.2.2.2.1.grown hG W2.out.2.2.2.1.size (fun k e => by cases e; omega))
    clear hG hc5 hg5 hd
    go_wp2
    refine bodyPost_ret (v := .tuple #[.agg #[.int .i64 x, .int .i64 y, .int .i64 z], .slice a1 n1 c1, .slice a2 n2 c2, .int .i64 d]) (by simp [results, Try.results45, go_sem, *]) rfl ⟨x, y, z, d, a1, a2, n1, n2, c1, c2, l1, l2, rfl, ?_, ?_, h1, h2, ?_⟩
    · exact (((HO1.out.far (by show w.heap.size < _; omega)).far (by show w.heap.size < _; omega)).far (by show w.heap.size < _; omega)).mono (by omega)
    · exact (((HO2.out.far (by show w.heap.size < _; omega)).far (by show w.heap.size < _; omega)).far (by show w.heap.size < _; omega)).mono (by omega)
    · exact ((HBB.out.setCell (Nat.le_refl _) _).setCell (Nat.le_refl _) _).setCell (Nat.le_refl _) _

end Go.Proofs.Ytbeeonpefmdkeaa
