/-
  Texts of this claim, joined: RingBal, LoopO, PipeM, DelQ.
-/
import Derived.Deep.RegionLaw
import Derived.Deep.DeepAppendRoom
import Derived.Lib.SliceRun
import Derived.WalkSmall
import Derived.Test.YtikjighlnpdgiaaRr4
import Derived.Test.YtikjighlnpdgiaaRr14
import Derived.Test.YtikjighlnpdgiaaRr15
import Derived.Test.YtikjighlnpdgiaaRr16
/-
  The flows of a ring, plain: the water balances, and turning the loop by one in either direction does not make the energy smaller.
-/
set_option linter.unusedVariables false
set_option linter.unusedSimpArgs false
namespace Go.Proofs.Ytikjighlnpdgiaa
open Go.RowKit

theorem sm_skip {f : Nat → Int} {i0 : Nat} (h0 : f i0 = 0) : ∀ n, i0 ≤ n → sm f (n + 1) = sm (fun k => f (up i0 k)) n
  | 0, h => by
    obtain rfl : i0 = 0 := by omega
    simp [sm, h0]
  | n + 1, h => by
    by_cases e : i0 = n + 1
    · subst e
      show sm f (n + 1) + f (n + 1) = _
      rw [h0, sm_ext (f := fun k => f (up (n + 1) k)) (g := f) (n + 1) (fun k hk => by
        show f (up (n + 1) k) = f k
        unfold up
        rw [if_pos hk])]
      omega
    · show sm f (n + 1) + f (n + 1) = sm (fun k => f (up i0 k)) n + f (up i0 n)
      rw [sm_skip h0 n (by omega), show up i0 n = n + 1 by unfold up; rw [if_neg (by omega)]]
theorem cof_two {l : List Pip} {x : Int} {k : Nat} (h : (pp l k).2.1 ≠ (pp l k).2.2.1) : cof l x k = (if x = (pp l k).2.2.1 then 1 else 0) - (if x = (pp l k).2.1 then 1 else 0) := by
  unfold cof
  repeat' split
  all_goals omega
theorem sig_net {M : Nat} {l : List Pip} {i0 d : Nat} {v : Nat → Int} {q : Nat → Nat} (hg : goodNet M l = true) (hL : Loop M l i0 d v q) (x : Int) : ∀ j, j ≤ d → sm (fun k => cof l x k * (sigs l i0 v q j)[k]?.getD 0) l.length = (if x = v j then 1 else 0) - (if x = v d then 1 else 0)
  | 0, _ => by
    have hp := (goodNet_pipe hg hL.lt0).2.2.2.1
    have e0 : sigs l i0 v q 0 = (List.replicate l.length 0).set i0 1 := rfl
    rw [sm_one (f := fun k => cof l x k * (sigs l i0 v q 0)[k]?.getD 0) (g := fun _ => 0) (j := i0) l.length hL.lt0 (fun k hk hne => by
      show cof l x k * (sigs l i0 v q 0)[k]?.getD 0 = 0
      rw [e0, set_at (by simpa using hk), if_neg (fun e => hne e.symm)]
      simp [hk]), sm_zero _ (fun _ _ => rfl)]
    show 0 + (cof l x i0 * (sigs l i0 v q 0)[i0]?.getD 0 - 0) = _
    rw [e0, set_at (by simpa using hL.lt0), if_pos rfl, hL.v0, hL.vd, cof_two hp, Int.mul_one]
    omega
  | j + 1, hj => by
    have ih := sig_net hg hL x j (by omega)
    have hq := hL.qlt j (by omega)
    have hp := (goodNet_pipe hg hq).2.2.2.1
    have h0 : (sigs l i0 v q j)[q j]?.getD 0 = 0 := (sigs_zero l i0 v q hq j).2 ⟨hL.qne j (by omega), fun k hk e => by have := hL.qinj (by omega) (by omega) e; omega⟩
    have e0 : sigs l i0 v q (j + 1) = (sigs l i0 v q j).set (q j) (sgn l v q j) := rfl
    rw [sm_one (f := fun k => cof l x k * (sigs l i0 v q (j + 1))[k]?.getD 0) (g := fun k => cof l x k * (sigs l i0 v q j)[k]?.getD 0) (j := q j) l.length hq (fun k hk hne => by
      show cof l x k * (sigs l i0 v q (j + 1))[k]?.getD 0 = cof l x k * (sigs l i0 v q j)[k]?.getD 0
      rw [e0, set_at (by rw [sigs_len]; exact hk), if_neg (fun e => hne e.symm)]), ih]
    show _ + (cof l x (q j) * (sigs l i0 v q (j + 1))[q j]?.getD 0 - cof l x (q j) * (sigs l i0 v q j)[q j]?.getD 0) = _
    rw [h0, e0, set_at (by rw [sigs_len]; exact hq), if_pos rfl, cof_two hp, Int.mul_zero]
    unfold sgn
    rcases hL.ends (show j < d by omega) with ⟨a, b⟩ | ⟨a, b⟩
    · rw [if_pos a.symm, a, b, Int.mul_one]
      omega
    · rw [a, b, if_neg hp, Int.mul_neg, Int.mul_one]
      omega
/-- Turning the loop brings nothing to any node. -/
theorem loop_net {M : Nat} {l : List Pip} (hg : goodNet M l = true) (hr : ringB M l = true) (x : Int) : sm (fun k => cof l x k * (loopS l)[k]?.getD 0) l.length = 0 := by
  obtain ⟨i0, d, v, q, hL, -, -, hS, -, -⟩ := loop_data hg hr
  rw [hS, sig_net hg hL x d (Nat.le_refl _)]
  omega
theorem turn_net {M : Nat} {l : List Pip} {fs : List Int} {x y : Int} (hg : goodNet M l = true) (hr : ringB M l = true) (hl : fs.length = l.length) : net l (turnF (loopS l) fs y l.length) x l.length = net l fs x l.length := by
  unfold net
  rw [sm_list, sm_list, sm_ext (g := fun k => cof l x k * fs[k]?.getD 0 + cof l x k * (loopS l)[k]?.getD 0 * y) l.length (fun k hk => by
    rw [inflow_cof, turnF_get _ _ _ _ k hk (by omega), Int.mul_add, Int.mul_assoc]), sm_add, sm_mul (fun k => cof l x k * (loopS l)[k]?.getD 0), loop_net hg hr, Int.zero_mul, Int.add_zero]
  exact sm_ext _ (fun k hk => (inflow_cof _ _ _ _).symm)
theorem turn_imb {M : Nat} {l : List Pip} {ds fs : List Int} {s x y : Int} (hg : goodNet M l = true) (hr : ringB M l = true) (hl : fs.length = l.length) : imb l ds (turnF (loopS l) fs y l.length) s x = imb l ds fs s x := by
  unfold imb
  rw [turn_net hg hr hl]
/-- Before the loop is turned the water balances. -/
theorem base_imb {M : Nat} {l : List Pip} {ds : List Int} {s x : Int} (hg : goodNet M l = true) (hr : ringB M l = true) (hs : 1 ≤ s ∧ s ≤ M) (hd : ds.length = M) (hx : 1 ≤ x ∧ x ≤ M) : imb l ds (ringBase M l s ds) s x = 0 := by
  obtain ⟨h1, h2, h3⟩ := firstL_ok (ring_on hg hr)
  have ht := ring_tree hg hr h1 h2
  have hge := goodNet_sub (List.eraseIdx_sublist l (firstL l)) hg
  have hle := List.length_eraseIdx_of_lt h1
  have hT := tree_imb (ds := ds) (x := x) hge ht hs hd hx
  have hlt : (tflows M (l.eraseIdx (firstL l)) s ds (l.length - 1)).length = l.length - 1 := tflows_len _ _ _ _ _
  have e : net l (ringBase M l s ds) x l.length = net (l.eraseIdx (firstL l)) (tflows M (l.eraseIdx (firstL l)) s ds (l.length - 1)) x (l.length - 1) := by
    unfold net
    rw [sm_list, sm_list]
    obtain ⟨n, hn⟩ : ∃ n, l.length = n + 1 := ⟨l.length - 1, by omega⟩
    rw [hn, Nat.add_sub_cancel]
    rw [sm_skip (i0 := firstL l) (by
      rw [inflow_cof]
      unfold ringBase
      rw [baseF_at (by omega), Int.mul_zero]) n (by omega)]
    refine sm_ext _ (fun k hk => ?_)
    show inflow l (ringBase M l s ds) x (up (firstL l) k) = inflow (l.eraseIdx (firstL l)) _ x k
    unfold inflow ringBase
    rw [pp_up, baseF_up (by omega) (by omega), hn, Nat.add_sub_cancel]
  unfold imb at hT ⊢
  rw [e]
  rw [hle] at hT
  exact hT

theorem rings_yes {N s : Int} {l : List Pip} {ds fs : List Int} (h : ringsR N l s ds = (fs, true)) :
    fs.length = l.length ∧ l.length ≤ 10 ∧ balR N l s ds fs = (true, true) ∧ ∃ E, energyR N l fs = (E, true) ∧ ∀ x : Int, x = -1 ∨ x = 1 → ∃ gs E', turnR N l fs x = (gs, true) ∧ gs.length = l.length ∧ energyR N l gs = (E', true) ∧ E ≤ E' ∧ balR N l s ds gs = (true, true) := by
  unfold ringsR at h
  split at h
  · rename_i h1
    obtain ⟨hg, hr, hs, hd, ht⟩ := canRing_iff h1
    have hN := (goodNet_get hg).1
    have hl10 := (goodNet_get hg).2.1
    obtain ⟨M, rfl⟩ : ∃ M : Nat, N = M := ⟨N.toNat, by omega⟩
    rw [Int.toNat_natCast, Prod.mk.injEq] at h
    obtain ⟨rfl, -⟩ := h
    have hdm : ds.length = M := by omega
    have hlM := ((ringB_iff hg).1 hr).1
    have hl : (ringBase M l s ds).length = l.length := ringBase_len (by omega)
    have hX := bestT_is (ringE M l s ds) (-400) 800
    have hX2 := bestT_is (ringE M l s ds) (-ds.sum) (2 * ds.sum).toNat
    rw [ring_best hg hr hd.2 hdm ht] at hX
    rw [show (-400 : Int) + ((800 : Nat) : Int) = 400 by omega] at hX
    have h0 := nonneg_sum hd.2
    have hXl := hX2.low
    have hXh := hX2.high
    have good : ∀ x : Int, -401 ≤ x ∧ x ≤ 401 → goodFl l.length (turnF (loopS l) (ringBase M l s ds) x l.length) = true ∧ energyR M l (turnF (loopS l) (ringBase M l s ds) x l.length) = (ringE M l s ds x, true) ∧ balR M l s ds (turnF (loopS l) (ringBase M l s ds) x l.length) = (true, true) := by
      intro x hx
      have hin := turn_in (s := s) (l := l) (M := M) (by omega) hd.2 hdm ht hx
      have hgf : goodFl l.length (turnF (loopS l) (ringBase M l s ds) x l.length) = true := goodFl_iff.2 ⟨by rw [turnF_len, hl], fun y hy => by have := hin y hy; omega⟩
      refine ⟨hgf, ?_, ?_⟩
      · unfold energyR
        rw [if_pos ⟨hg, hgf, slow_iff.2 (fun y hy => by have := hin y hy; omega)⟩]
        rfl
      · unfold balR
        rw [if_pos (by unfold asks; rw [hg, inR_iff.2 hs, goodDem_iff.2 hd, hgf]; rfl), Int.toNat_natCast, bal_yes (fun k hk => by
          rw [turn_imb hg hr hl]
          exact base_imb hg hr hs hdm (by omega))]
    unfold ringFs
    refine ⟨by rw [turnF_len, hl], hl10, (good _ (by unfold ringX; omega)).2.2, _, (good _ (by unfold ringX; omega)).2.1, fun x hx => ?_⟩
    have hx2 : -401 ≤ ringX M l s ds + x ∧ ringX M l s ds + x ≤ 401 := by unfold ringX; omega
    refine ⟨turnF (loopS l) (ringBase M l s ds) (ringX M l s ds + x) l.length, _, ?_, by rw [turnF_len, hl], (good _ hx2).2.1, ?_, (good _ hx2).2.2⟩
    · unfold turnR
      rw [turnF_add hl, if_pos ⟨by rw [hg, hr]; rfl, (good _ (by unfold ringX; omega)).1, inR_iff.2 (by omega), (good _ hx2).1⟩]
    · show ringE M l s ds (bestT (ringE M l s ds) (-ds.sum) (2 * ds.sum).toNat) ≤ ringE M l s ds (bestT (ringE M l s ds) (-ds.sum) (2 * ds.sum).toNat + x)
      rcases hx with rfl | rfl
      · exact Int.le_of_lt (hX.bef _ (by omega) (by omega))
      · exact hX.aft _ (by omega) (by omega)
  · cases h

end Go.Proofs.Ytikjighlnpdgiaa

/-
  LoopOf, in the program and in the reference.
-/
set_option linter.unusedVariables false
set_option linter.unusedSimpArgs false
namespace Go.Proofs.Ytikjighlnpdgiaa
open Go.RowKit

def ApL (x y : Option Nat) : Prop := x = none ∨ x ≠ y
theorem ApL.symm {x y : Option Nat} (h : ApL x y) : ApL y x := by
  rcases h with h | h
  · subst h
    cases y with
    | none => exact .inl rfl
    | some k => exact .inr (by simp)
  · exact .inr (fun e => h e.symm)
theorem ApL.new {w : World} {B Z : Nat} {v u v' : Value} {l : List Int} (h : ApL v.ownBlock u.ownBlock) (hb : v'.ownBlock = v.ownBlock ∨ v'.ownBlock = some Z) (hu : OwnI w B u l) (hz : w.heap.size ≤ Z) : ApL v'.ownBlock u.ownBlock := by
  rcases hb with e | e
  · rw [e]; exact h
  · rw [e]
    exact .inr (fun e2 => by have := (hu.lt Z e2.symm).2; omega)
theorem ApL.young {w : World} {B B' : Nat} {v u : Value} {l l' : List Int} (hu : OwnI w B u l) (hv : OwnI w B' v l') (hb : ∀ k, u.ownBlock = some k → k < B') : ApL v.ownBlock u.ownBlock := by
  cases e : v.ownBlock with
  | none => exact .inl rfl
  | some k => exact .inr (fun e2 => by have h1 := (hv.lt k e).1; have h2 := hb k e2.symm; omega)
/-- The pipes of the loop and their signs, among the first k. -/
noncomputable def idsL (l : List Pip) : Nat → List Int
  | 0 => []
  | k + 1 => if (loopS l)[k]?.getD 0 = 0 then idsL l k else idsL l k ++ [(pp l k).1]
noncomputable def sgnL (l : List Pip) : Nat → List Int
  | 0 => []
  | k + 1 => if (loopS l)[k]?.getD 0 = 0 then sgnL l k else sgnL l k ++ [(loopS l)[k]?.getD 0]
theorem idsL_no {l : List Pip} {k : Nat} (h : (loopS l)[k]?.getD 0 = 0) : idsL l (k + 1) = idsL l k ∧ sgnL l (k + 1) = sgnL l k := by
  rw [idsL, sgnL, if_pos h, if_pos h]
  exact ⟨rfl, rfl⟩
theorem idsL_yes {l : List Pip} {k : Nat} (h : ¬ (loopS l)[k]?.getD 0 = 0) : idsL l (k + 1) = idsL l k ++ [(pp l k).1] ∧ sgnL l (k + 1) = sgnL l k ++ [(loopS l)[k]?.getD 0] := by
  rw [idsL, sgnL, if_neg h, if_neg h]
  exact ⟨rfl, rfl⟩
theorem idsL_len (l : List Pip) : ∀ k, (idsL l k).length ≤ k ∧ (sgnL l k).length = (idsL l k).length
  | 0 => by simp [idsL, sgnL]
  | k + 1 => by
    have h1 := idsL_len l k
    by_cases h : (loopS l)[k]?.getD 0 = 0
    · rw [(idsL_no h).1, (idsL_no h).2]; omega
    · rw [(idsL_yes h).1, (idsL_yes h).2]; simp; omega
/-- What both walks carry. -/
structure LpOf (w W : World) (l : List Pip) (s1 s2 s3 : Value) (k : Nat) : Prop where
  o1 : OwnI W w.heap.size s1 (idsL l k)
  o2 : OwnI W w.heap.size s2 (sgnL l k)
  o3 : OwnI W w.heap.size s3 (loopS l)
  bel : Below w.heap.size w W
  a12 : ApL s1.ownBlock s2.ownBlock
  a13 : ApL s1.ownBlock s3.ownBlock
  a23 : ApL s2.ownBlock s3.ownBlock
theorem LpOf.below {w W W' : World} {l : List Pip} {s1 s2 s3 : Value} {k : Nat} (h : LpOf w W l s1 s2 s3 k) (hb : Below W.heap.size W W') : LpOf w W' l s1 s2 s3 k :=
  ⟨h.o1.below hb, h.o2.below hb, h.o3.below hb, bstep h.bel hb, h.a12, h.a13, h.a23⟩

/-- What LoopOf returns. -/
noncomputable def loopR (N : Int) (l : List Pip) : List Int × List Int × Bool := if (goodNet N l && ringB N l) = true then (idsL l l.length, sgnL l l.length, true) else ([], [], false)
theorem loopR_no {N : Int} {l : List Pip} (h : (goodNet N l && ringB N l) = false) : loopR N l = ([], [], false) := by
  unfold loopR
  rw [if_neg (by rw [h]; simp)]
theorem loopR_len {N : Int} {l : List Pip} {R S : List Int} {b : Bool} (h : loopR N l = (R, S, b)) : R.length ≤ 1000 ∧ S.length ≤ 1000 := by
  unfold loopR at h
  split at h
  · rename_i h1
    cases h
    have h2 := idsL_len l l.length
    have := (goodNet_get ((Bool.and_eq_true _ _).mp h1).1).2.1
    omega
  · cases h; simp

set_option maxRecDepth 100000 in
set_option maxHeartbeats 4000000 in
theorem i_LoopOf (N : Int) (a : Option Addr) (n c : Nat) (l : List Pip) (w : World) (h : QAt w a n l) (hn : n ≤ 1048576) (R S : List Int) (q : Bool) (hR : loopR N l = (R, S, q)) :
    Calls Try.prog 22 #[.agg #[.int .i64 N, .slice a n c]] w fun e w' => ∃ a1 c1 a2 c2, e = .returned (.tuple #[.slice a1 R.length c1, .slice a2 S.length c2, .bool q]) ∧ OwnI w' w.heap.size (.slice a1 R.length c1) R ∧ OwnI w' w.heap.size (.slice a2 S.length c2) S ∧ ApL (Value.ownBlock (.slice a1 R.length c1)) (Value.ownBlock (.slice a2 S.length c2)) ∧ Below w.heap.size w w' := by
  have hl := h.1
  have H := hid h
  clear h
  cases h12 : (goodNet N l && ringB N l)
  · rw [loopR_no h12] at hR
    cases hR
    obtain ⟨M, rfl⟩ : ∃ M : Int, M = N := ⟨_, rfl⟩
    have HF := hid h12
    clear h12 hl
    go_enter Try.func22, Try.ntmps22
    go_upto_region 1 with fail
    have BA := hid (by go_grown : Below w.heap.size w (w.alloc (.cells #[.int .i64 M, .slice a n c] 31)))
    have N0 := hid (cell_of_row _ _ 0 _ _ (0, 0) (heap_alloc_new w (.cells #[.int .i64 M, .slice a n c] 31)))
    have N1 := hid (cell_of_row _ _ 1 _ _ (0, 0) (heap_alloc_new w (.cells #[.int .i64 M, .slice a n c] 31)))
    have hzA : w.heap.size < (w.alloc (.cells #[.int .i64 M, .slice a n c] 31)).heap.size := by simp
    have n0 := N0.out
    have n1 := N1.out
    simp only [List.getElem?_toArray, List.getElem?_cons_zero, List.getElem?_cons_succ] at n0 n1
    generalize w.alloc (.cells #[.int .i64 M, .slice a n c] 31) = wA at *
    have KA := hid (show ∀ wx, Below wA.heap.size wA wx → (wx.cell? ⟨w.heap.size, 0, none⟩ = some (.int .i64 M) ∧ wx.cell? ⟨w.heap.size, 1, none⟩ = some (.slice a n c)) from fun wx hb => ⟨(hb.cell (p := ⟨w.heap.size, 0, none⟩) hzA).trans n0, (hb.cell (p := ⟨w.heap.size, 1, none⟩) hzA).trans n1⟩)
    go_wp2_with fail
    refine (i_hasRing M _ _ _ l _ (H.out.below BA.out) hn).mono ?_
    rintro e w1 ⟨rfl, hb1⟩
    rw [HF.out]
    have HB1 := hid hb1
    obtain ⟨n0', n1'⟩ := KA.out _ hb1
    have hz1 : w.heap.size < w1.heap.size := World.block_lt_of_cell? w1 _ n0'
    clear n0 n1 hb1
    go_wp2
    refine bodyPost_ret (v := .tuple #[.slice none 0 0, .slice none 0 0, .bool false]) (by simp [results, Try.results22, go_sem]) rfl ?_
    exact ⟨_, _, _, _, rfl, OwnI.nil _ _, OwnI.nil _ _, .inl rfl, bstep BA.out HB1.out⟩
  · obtain ⟨h1, h2⟩ := (Bool.and_eq_true _ _).mp h12
    have hN := (goodNet_get h1).1
    obtain ⟨M, rfl⟩ : ∃ M : Nat, N = M := ⟨N.toNat, by omega⟩
    have HF := hid h12
    have e0 : loopR M l = (idsL l n, sgnL l n, true) := by
      unfold loopR
      rw [if_pos h12, hl]
    rw [e0] at hR
    cases hR
    have HLN := hid hl
    have HG := hid h1
    have HR := hid h2
    have hn10 : n ≤ 10 := by have := (goodNet_get h1).2.1; omega
    clear h1 h2 h12 hl hN e0
    go_enter Try.func22, Try.ntmps22
    go_upto_region 1 with fail
    have BA := hid (by go_grown : Below w.heap.size w (w.alloc (.cells #[.int .i64 M, .slice a n c] 31)))
    have N0 := hid (cell_of_row _ _ 0 _ _ (0, 0) (heap_alloc_new w (.cells #[.int .i64 M, .slice a n c] 31)))
    have N1 := hid (cell_of_row _ _ 1 _ _ (0, 0) (heap_alloc_new w (.cells #[.int .i64 M, .slice a n c] 31)))
    have hzA : w.heap.size < (w.alloc (.cells #[.int .i64 M, .slice a n c] 31)).heap.size := by simp
    have n0 := N0.out
    have n1 := N1.out
    simp only [List.getElem?_toArray, List.getElem?_cons_zero, List.getElem?_cons_succ] at n0 n1
    generalize w.alloc (.cells #[.int .i64 M, .slice a n c] 31) = wA at *
    have KA := hid (show ∀ wx, Below wA.heap.size wA wx → (wx.cell? ⟨w.heap.size, 0, none⟩ = some (.int .i64 M) ∧ wx.cell? ⟨w.heap.size, 1, none⟩ = some (.slice a n c)) from fun wx hb => ⟨(hb.cell (p := ⟨w.heap.size, 0, none⟩) hzA).trans n0, (hb.cell (p := ⟨w.heap.size, 1, none⟩) hzA).trans n1⟩)
    go_wp2_with fail
    refine (i_hasRing M _ _ _ l _ (H.out.below BA.out) hn).mono ?_
    rintro e w1 ⟨rfl, hb1⟩
    rw [HF.out]
    have HB1 := hid hb1
    obtain ⟨n0', n1'⟩ := KA.out _ hb1
    have hz1 : w.heap.size < w1.heap.size := World.block_lt_of_cell? w1 _ n0'
    clear n0 n1 hb1
    have hz1' := HB1.out.size
    have L1 := hid ((OwnI.lit0 w1).mono (B' := wA.heap.size) hz1')
    have L2 := hid ((OwnI.lit0 (w1.alloc (.cells #[] 3))).mono (B' := wA.heap.size) (by simp; omega))
    rw [show (w1.alloc (.cells #[] 3)).heap.size = w1.heap.size + 1 by simp] at L2
    have LB := hid (bstep HB1.out (by go_grown) : Below wA.heap.size wA ((w1.alloc (.cells #[] 3)).alloc (.cells #[] 3)))
    have LA := hid (L1.out.alloc (.cells #[] 3))
    have hzz : ((w1.alloc (.cells #[] 3)).alloc (.cells #[] 3)).heap.size = w1.heap.size + 2 := by simp
    go_upto_region 4 with fail
    generalize (w1.alloc (.cells #[] 3)).alloc (.cells #[] 3) = w2 at *
    obtain ⟨m0, m1⟩ := KA.out _ LB.out
    clear n0' n1'
    go_wp2_with fail
    refine (i_loopOf M _ _ _ l _ (H.out.below (bstep BA.out LB.out)) HG.out HR.out).mono ?_
    rintro e w3 ⟨a3, c3, rfl, ho3, hb3⟩
    have S0 := hid (show LpOf wA w3 l (.slice (some ⟨w1.heap.size, 0, none⟩) 0 0) (.slice (some ⟨w1.heap.size + 1, 0, none⟩) 0 0) (.slice a3 n c3) 0 from
      ⟨LA.out.below hb3, L2.out.below hb3, ho3.mono LB.out.size, bstep LB.out hb3, .inr (by simp [Value.ownBlock]), (ApL.young (LA.out.below hb3) ho3 (fun k e => by have e2 : some w1.heap.size = some k := e; have := Option.some.inj e2; omega)).symm, (ApL.young (L2.out.below hb3) ho3 (fun k e => by have e2 : some (w1.heap.size + 1) = some k := e; have := Option.some.inj e2; omega)).symm⟩)
    clear m0 m1 hz1 hz1' ho3 hb3 L1 L2 LA LB hzz
    go_wp2
    go_loopg [5, 6, 17] n (fun g o u i wr => ∃ (k : Nat) (a1 a2 : Option Addr) (c1 c2 : Nat), k ≤ n ∧ g = n - k ∧ i = .int .i64 k ∧ o = .slice a1 (idsL l k).length c1 ∧ u = .slice a2 (sgnL l k).length c2 ∧ Hid (LpOf wA wr l (.slice a1 (idsL l k).length c1) (.slice a2 (sgnL l k).length c2) (.slice a3 n c3) k))
    case atStart => exact ⟨0, _, _, 0, 0, Nat.zero_le _, rfl, rfl, rfl, rfl, S0⟩
    case round =>
      obtain ⟨k, a1, a2, c1, c2, hk, rfl, rfl, rfl, rfl, hh⟩ := hrel
      clear S0
      obtain ⟨n0, n1⟩ := KA.out _ hh.out.bel
      have hz0 : w.heap.size < wr.heap.size := World.block_lt_of_cell? wr _ n0
      by_cases hlt : k < n
      · obtain ⟨b0, off0, rfl, hbw, x0, x1, x2, x3⟩ := QAt.get (H.out.below (bstep BA.out hh.out.bel)) k hlt
        obtain ⟨g3, rfl, hg31, hg32⟩ := own_some hh.out.o3 (by omega)
        have hcl := hh.out.o3.cell (k := k) hlt
        have hLL : (idsL l k).length ≤ k ∧ (sgnL l k).length ≤ k := by have := idsL_len l k; omega
        by_cases hs : (loopS l)[k]?.getD 0 = 0
        · have E := hid (idsL_no hs)
          rw [hs] at hcl
          go_wp2
          go_roundg (n - (k + 1))
          case rel =>
            refine ⟨k + 1, a1, a2, c1, c2, by omega, rfl, by go_num, by rw [E.out.1], by rw [E.out.2], hid ?_⟩
            rw [E.out.1, E.out.2]
            exact ⟨by rw [E.out.1]; exact hh.out.o1, by rw [E.out.2]; exact hh.out.o2, hh.out.o3, hh.out.bel, hh.out.a12, hh.out.a13, hh.out.a23⟩
          case measure => omega
        · have E := hid (idsL_yes hs)
          obtain ⟨sg, hsg⟩ : ∃ sg, (loopS l)[k]?.getD 0 = sg := ⟨_, rfl⟩
          obtain ⟨pid, hpid⟩ : ∃ pid, (pp l k).1 = pid := ⟨_, rfl⟩
          rw [hsg] at hs hcl
          have hs2 : (sg != 0) = true := by simpa using hs
          have HSG := hid hsg
          rw [hsg, hpid] at E
          rw [hpid] at x0
          clear hsg hpid x1 x2 x3
          go_wp2_with (at_builtin; refine wp_append_ints _ rfl _ _ rfl wA.heap.size _ (idsL l k) rfl (hh.out.o1.alloc _) _ 1 1 [pid] rfl (IntsAt.single _ _) ((idsL l k).length + 1) (by simp) (by omega) (by have := hh.out.bel.size; simp; omega) ?_)
          intro a5 c5 w5 hown hgrow hblk
          have hsz := hgrow.size
          simp only [World.size_alloc] at hsz
          have hgr2 : wr.grownBy w5 (Value.ownBlock (.slice a1 (idsL l k).length c1)) := grownBy_trans (grown_of_below (by go_grown) _) hgrow
          have hnn : ApL (Value.ownBlock (.slice a5 ((idsL l k).length + 1) c5)) (Value.ownBlock (.slice a2 (sgnL l k).length c2)) ∧ ApL (Value.ownBlock (.slice a5 ((idsL l k).length + 1) c5)) (Value.ownBlock (.slice (some ⟨g3, 0, none⟩) n c3)) := ⟨ApL.new hh.out.a12 hblk hh.out.o2 (by simp), ApL.new hh.out.a13 hblk hh.out.o3 (by simp)⟩
          have S5 := hid (show OwnI w5 wA.heap.size (.slice a5 ((idsL l k).length + 1) c5) (idsL l k ++ [pid]) ∧ OwnI w5 wA.heap.size (.slice a2 (sgnL l k).length c2) (sgnL l k) ∧ OwnI w5 wA.heap.size (.slice (some ⟨g3, 0, none⟩) n c3) (loopS l) ∧ Below wA.heap.size wA w5 from
            ⟨hown, hh.out.o2.kept hgr2 hh.out.a12.symm, hh.out.o3.kept hgr2 hh.out.a13.symm, hh.out.bel.grown hgr2 hh.out.bel.size (fun q hq => (hh.out.o1.lt q hq).1)⟩)
          have HNN := hid hnn
          have hcl5 := S5.out.2.2.1.cell (k := k) hlt
          rw [HSG.out] at hcl5
          clear hown hgrow hblk hgr2 hnn hcl n0 n1 x0 hbw
          have hg35 : g3 < w5.heap.size := by omega
          go_wp2_with (at_builtin; refine wp_append_ints _ rfl _ _ rfl wA.heap.size _ (sgnL l k) rfl (S5.out.2.1.alloc _) _ 1 1 [sg] rfl (IntsAt.single _ _) ((sgnL l k).length + 1) (by simp) (by omega) (by have := S5.out.2.2.2.size; simp; omega) ?_)
          intro a6 c6 w6 hown hgrow hblk
          have hgr2 : w5.grownBy w6 (Value.ownBlock (.slice a2 (sgnL l k).length c2)) := grownBy_trans (grown_of_below (by go_grown) _) hgrow
          have hl1 : (idsL l k).length + 1 = (idsL l (k + 1)).length := by rw [E.out.1]; simp
          have hl2 : (sgnL l k).length + 1 = (sgnL l (k + 1)).length := by rw [E.out.2]; simp
          have S6 := hid (show LpOf wA w6 l (.slice a5 ((idsL l k).length + 1) c5) (.slice a6 ((sgnL l k).length + 1) c6) (.slice (some ⟨g3, 0, none⟩) n c3) (k + 1) from
            ⟨by rw [E.out.1]; exact S5.out.1.kept hgr2 HNN.out.1, by rw [E.out.2]; exact hown, S5.out.2.2.1.kept hgr2 hh.out.a23.symm, S5.out.2.2.2.grown hgr2 S5.out.2.2.2.size (fun q hq => (S5.out.2.1.lt q hq).1), (ApL.new HNN.out.1.symm hblk S5.out.1 (by simp)).symm, HNN.out.2, ApL.new hh.out.a23 hblk S5.out.2.2.1 (by simp)⟩)
          rw [hl1, hl2] at S6
          have HL1 := hid hl1
          have HL2 := hid hl2
          clear hown hgrow hblk hgr2 hl1 hl2 hcl5
          go_wp2
          go_roundg (n - (k + 1))
          case rel => exact ⟨k + 1, _, _, _, _, by omega, rfl, by go_num, by rw [HL1.out], by rw [HL2.out], S6⟩
          case measure => omega
      · obtain rfl : n = k := by omega
        go_wp2
        refine bodyPost_ret (v := .tuple #[.slice a1 (idsL l n).length c1, .slice a2 (sgnL l n).length c2, .bool true]) (by simp [results, Try.results22, go_sem]) rfl ?_
        exact ⟨_, _, _, _, rfl, hh.out.o1.mono BA.out.size, hh.out.o2.mono BA.out.size, hh.out.a12, bstep BA.out hh.out.bel⟩

set_option maxRecDepth 100000 in
set_option maxHeartbeats 4000000 in
theorem s_LoopOf (N : Int) (a : Option Addr) (n c : Nat) (l : List Pip) (w : World) (h : QAt w a n l) (hn : n ≤ 1048576) (hc : n ≤ c) (R S : List Int) (q : Bool) (hR : loopR N l = (R, S, q)) :
    Calls Try.prog 23 #[.agg #[.int .i64 N, .slice a n c]] w fun e w' => ∃ a1 c1 a2 c2, e = .returned (.tuple #[.slice a1 R.length c1, .slice a2 S.length c2, .bool q]) ∧ OwnI w' w.heap.size (.slice a1 R.length c1) R ∧ OwnI w' w.heap.size (.slice a2 S.length c2) S ∧ ApL (Value.ownBlock (.slice a1 R.length c1)) (Value.ownBlock (.slice a2 S.length c2)) ∧ Below w.heap.size w w' := by
  have hl := h.1
  have H := hid h
  clear h
  cases h1 : goodNet N l
  · rw [loopR_no (by rw [h1]; rfl)] at hR
    cases hR
    obtain ⟨M, rfl⟩ : ∃ M : Int, M = N := ⟨_, rfl⟩
    have HG := hid h1
    clear h1 hl
    go_enter Try.func23, Try.ntmps23
    go_upto_region 1 with fail
    have BA := hid (by go_grown : Below w.heap.size w (w.alloc (.cells #[.int .i64 M, .slice a n c] 31)))
    have N0 := hid (cell_of_row _ _ 0 _ _ (0, 0) (heap_alloc_new w (.cells #[.int .i64 M, .slice a n c] 31)))
    have N1 := hid (cell_of_row _ _ 1 _ _ (0, 0) (heap_alloc_new w (.cells #[.int .i64 M, .slice a n c] 31)))
    have hzA : w.heap.size < (w.alloc (.cells #[.int .i64 M, .slice a n c] 31)).heap.size := by simp
    have n0 := N0.out
    have n1 := N1.out
    simp only [List.getElem?_toArray, List.getElem?_cons_zero, List.getElem?_cons_succ] at n0 n1
    generalize w.alloc (.cells #[.int .i64 M, .slice a n c] 31) = wA at *
    have KA := hid (show ∀ wx, Below wA.heap.size wA wx → (wx.cell? ⟨w.heap.size, 0, none⟩ = some (.int .i64 M) ∧ wx.cell? ⟨w.heap.size, 1, none⟩ = some (.slice a n c)) from fun wx hb => ⟨(hb.cell (p := ⟨w.heap.size, 0, none⟩) hzA).trans n0, (hb.cell (p := ⟨w.heap.size, 1, none⟩) hzA).trans n1⟩)
    have LA := hid ((OwnI.lit0 wA).alloc (.cells #[] 3))
    have L2 := hid ((OwnI.lit0 (wA.alloc (.cells #[] 3))).mono (B' := wA.heap.size) (by simp))
    rw [show (wA.alloc (.cells #[] 3)).heap.size = wA.heap.size + 1 by simp] at L2
    have LB := hid (by go_grown : Below wA.heap.size wA ((wA.alloc (.cells #[] 3)).alloc (.cells #[] 3)))
    have hzz : ((wA.alloc (.cells #[] 3)).alloc (.cells #[] 3)).heap.size = wA.heap.size + 2 := by simp
    go_upto_region 2 with fail
    generalize (wA.alloc (.cells #[] 3)).alloc (.cells #[] 3) = wB at *
    clear n0 n1
    obtain ⟨m0, m1⟩ := KA.out _ LB.out
    go_wp2_with fail
    refine (s_l2Good M _ _ _ l _ (H.out.below (bstep BA.out LB.out)) hn).mono ?_
    rintro e w3 ⟨rfl, hb3⟩
    rw [HG.out]
    have S3 := hid (show OwnI w3 w.heap.size (.slice (some ⟨wA.heap.size, 0, none⟩) 0 0) [] ∧ OwnI w3 w.heap.size (.slice (some ⟨wA.heap.size + 1, 0, none⟩) 0 0) [] ∧ Below w.heap.size w w3 from ⟨(LA.out.below hb3).mono BA.out.size, (L2.out.below hb3).mono BA.out.size, bstep BA.out (bstep LB.out hb3)⟩)
    clear m0 m1 hb3
    go_wp2
    refine bodyPost_ret (v := .tuple #[.slice (some ⟨wA.heap.size, 0, none⟩) 0 0, .slice (some ⟨wA.heap.size + 1, 0, none⟩) 0 0, .bool false]) (by simp [results, Try.results23, go_sem]) rfl ?_
    exact ⟨_, _, _, _, rfl, S3.out.1, S3.out.2.1, .inr (by simp [Value.ownBlock]), S3.out.2.2⟩
  · have hN := (goodNet_get h1).1
    obtain ⟨M, rfl⟩ : ∃ M : Nat, N = M := ⟨N.toNat, by omega⟩
    have HG := hid h1
    cases h2 : ringB M l
    · rw [loopR_no (by rw [h1, h2]; rfl)] at hR
      cases hR
      have HR := hid h2
      clear h1 h2 hl hN
      go_enter Try.func23, Try.ntmps23
      go_upto_region 1 with fail
      have BA := hid (by go_grown : Below w.heap.size w (w.alloc (.cells #[.int .i64 M, .slice a n c] 31)))
      have N0 := hid (cell_of_row _ _ 0 _ _ (0, 0) (heap_alloc_new w (.cells #[.int .i64 M, .slice a n c] 31)))
      have N1 := hid (cell_of_row _ _ 1 _ _ (0, 0) (heap_alloc_new w (.cells #[.int .i64 M, .slice a n c] 31)))
      have hzA : w.heap.size < (w.alloc (.cells #[.int .i64 M, .slice a n c] 31)).heap.size := by simp
      have n0 := N0.out
      have n1 := N1.out
      simp only [List.getElem?_toArray, List.getElem?_cons_zero, List.getElem?_cons_succ] at n0 n1
      generalize w.alloc (.cells #[.int .i64 M, .slice a n c] 31) = wA at *
      have KA := hid (show ∀ wx, Below wA.heap.size wA wx → (wx.cell? ⟨w.heap.size, 0, none⟩ = some (.int .i64 M) ∧ wx.cell? ⟨w.heap.size, 1, none⟩ = some (.slice a n c)) from fun wx hb => ⟨(hb.cell (p := ⟨w.heap.size, 0, none⟩) hzA).trans n0, (hb.cell (p := ⟨w.heap.size, 1, none⟩) hzA).trans n1⟩)
      have LA := hid ((OwnI.lit0 wA).alloc (.cells #[] 3))
      have L2 := hid ((OwnI.lit0 (wA.alloc (.cells #[] 3))).mono (B' := wA.heap.size) (by simp))
      rw [show (wA.alloc (.cells #[] 3)).heap.size = wA.heap.size + 1 by simp] at L2
      have LB := hid (by go_grown : Below wA.heap.size wA ((wA.alloc (.cells #[] 3)).alloc (.cells #[] 3)))
      have hzz : ((wA.alloc (.cells #[] 3)).alloc (.cells #[] 3)).heap.size = wA.heap.size + 2 := by simp
      go_upto_region 2 with fail
      generalize (wA.alloc (.cells #[] 3)).alloc (.cells #[] 3) = wB at *
      clear n0 n1
      obtain ⟨m0, m1⟩ := KA.out _ LB.out
      go_wp2_with fail
      refine (s_l2Good M _ _ _ l _ (H.out.below (bstep BA.out LB.out)) hn).mono ?_
      rintro e w3 ⟨rfl, hb3⟩
      rw [HG.out]
      have HB3 := hid hb3
      obtain ⟨k0, k1⟩ := KA.out _ (bstep LB.out hb3)
      have hz3 : w.heap.size < w3.heap.size := World.block_lt_of_cell? w3 _ k0
      clear m0 m1 hb3
      go_wp2_with fail
      refine (s_l10Ring M _ _ _ l _ (H.out.below (bstep BA.out (bstep LB.out HB3.out))) HG.out).mono ?_
      rintro e w4 ⟨rfl, hb4⟩
      rw [HR.out]
      have HB34 := hid (bstep HB3.out hb4)
      clear k0 k1 hb4 hz3
      obtain ⟨m0, m1⟩ := KA.out _ (bstep LB.out HB34.out)
      have S3 := hid (show OwnI w4 w.heap.size (.slice (some ⟨wA.heap.size, 0, none⟩) 0 0) [] ∧ OwnI w4 w.heap.size (.slice (some ⟨wA.heap.size + 1, 0, none⟩) 0 0) [] ∧ Below w.heap.size w w4 from ⟨(LA.out.below HB34.out).mono BA.out.size, (L2.out.below HB34.out).mono BA.out.size, bstep BA.out (bstep LB.out HB34.out)⟩)
      go_wp2
      refine bodyPost_ret (v := .tuple #[.slice (some ⟨wA.heap.size, 0, none⟩) 0 0, .slice (some ⟨wA.heap.size + 1, 0, none⟩) 0 0, .bool false]) (by simp [results, Try.results23, go_sem]) rfl ?_
      exact ⟨_, _, _, _, rfl, S3.out.1, S3.out.2.1, .inr (by simp [Value.ownBlock]), S3.out.2.2⟩
    · have HR := hid h2
      have e0 : loopR M l = (idsL l n, sgnL l n, true) := by
        unfold loopR
        rw [if_pos (by rw [h1, h2]; rfl), hl]
      rw [e0] at hR
      cases hR
      have HLN := hid hl
      have hn10 : n ≤ 10 := by have := (goodNet_get h1).2.1; omega
      clear h1 h2 hl hN e0
      go_enter Try.func23, Try.ntmps23
      go_upto_region 1 with fail
      have BA := hid (by go_grown : Below w.heap.size w (w.alloc (.cells #[.int .i64 M, .slice a n c] 31)))
      have N0 := hid (cell_of_row _ _ 0 _ _ (0, 0) (heap_alloc_new w (.cells #[.int .i64 M, .slice a n c] 31)))
      have N1 := hid (cell_of_row _ _ 1 _ _ (0, 0) (heap_alloc_new w (.cells #[.int .i64 M, .slice a n c] 31)))
      have hzA : w.heap.size < (w.alloc (.cells #[.int .i64 M, .slice a n c] 31)).heap.size := by simp
      have n0 := N0.out
      have n1 := N1.out
      simp only [List.getElem?_toArray, List.getElem?_cons_zero, List.getElem?_cons_succ] at n0 n1
      generalize w.alloc (.cells #[.int .i64 M, .slice a n c] 31) = wA at *
      have KA := hid (show ∀ wx, Below wA.heap.size wA wx → (wx.cell? ⟨w.heap.size, 0, none⟩ = some (.int .i64 M) ∧ wx.cell? ⟨w.heap.size, 1, none⟩ = some (.slice a n c)) from fun wx hb => ⟨(hb.cell (p := ⟨w.heap.size, 0, none⟩) hzA).trans n0, (hb.cell (p := ⟨w.heap.size, 1, none⟩) hzA).trans n1⟩)
      have LA := hid ((OwnI.lit0 wA).alloc (.cells #[] 3))
      have L2 := hid ((OwnI.lit0 (wA.alloc (.cells #[] 3))).mono (B' := wA.heap.size) (by simp))
      rw [show (wA.alloc (.cells #[] 3)).heap.size = wA.heap.size + 1 by simp] at L2
      have LB := hid (by go_grown : Below wA.heap.size wA ((wA.alloc (.cells #[] 3)).alloc (.cells #[] 3)))
      have hzz : ((wA.alloc (.cells #[] 3)).alloc (.cells #[] 3)).heap.size = wA.heap.size + 2 := by simp
      go_upto_region 2 with fail
      generalize (wA.alloc (.cells #[] 3)).alloc (.cells #[] 3) = wB at *
      clear n0 n1
      obtain ⟨m0, m1⟩ := KA.out _ LB.out
      go_wp2_with fail
      refine (s_l2Good M _ _ _ l _ (H.out.below (bstep BA.out LB.out)) hn).mono ?_
      rintro e w3 ⟨rfl, hb3⟩
      rw [HG.out]
      have HB3 := hid hb3
      obtain ⟨k0, k1⟩ := KA.out _ (bstep LB.out hb3)
      have hz3 : w.heap.size < w3.heap.size := World.block_lt_of_cell? w3 _ k0
      clear m0 m1 hb3
      go_wp2_with fail
      refine (s_l10Ring M _ _ _ l _ (H.out.below (bstep BA.out (bstep LB.out HB3.out))) HG.out).mono ?_
      rintro e w4 ⟨rfl, hb4⟩
      rw [HR.out]
      have HB34 := hid (bstep HB3.out hb4)
      clear k0 k1 hb4 hz3
      obtain ⟨m0, m1⟩ := KA.out _ (bstep LB.out HB34.out)
      have HB24 := hid (bstep LB.out HB34.out)
      obtain ⟨k0, k1⟩ := KA.out _ HB24.out
      clear m0 m1
      go_wp2_with fail
      refine (s_l10Loop M _ _ _ l _ (H.out.below (bstep BA.out HB24.out)) HG.out HR.out hc).mono ?_
      rintro e w5 ⟨a3, c3, rfl, ho3, hb3⟩
      have LA4 := hid (LA.out.below HB34.out)
      have L24 := hid (L2.out.below HB34.out)
      have hz4 := HB34.out.size
      have S0 := hid (show LpOf wA w5 l (.slice (some ⟨wA.heap.size, 0, none⟩) 0 0) (.slice (some ⟨wA.heap.size + 1, 0, none⟩) 0 0) (.slice a3 n c3) 0 from
        ⟨LA4.out.below hb3, L24.out.below hb3, ho3.mono HB24.out.size, bstep HB24.out hb3, .inr (by simp [Value.ownBlock]), (ApL.young (LA4.out.below hb3) ho3 (fun k e => by have e2 : some wA.heap.size = some k := e; have := Option.some.inj e2; omega)).symm, (ApL.young (L24.out.below hb3) ho3 (fun k e => by have e2 : some (wA.heap.size + 1) = some k := e; have := Option.some.inj e2; omega)).symm⟩)
      clear ho3 hb3 L2 LA LB hzz LA4 L24 k0 k1 hz4
      go_wp2
      go_loopg [5, 6, 8] n (fun g o u i wr => ∃ (k : Nat) (a1 a2 : Option Addr) (c1 c2 : Nat), k ≤ n ∧ g = n - k ∧ i = .int .i64 k ∧ o = .slice a1 (idsL l k).length c1 ∧ u = .slice a2 (sgnL l k).length c2 ∧ Hid (LpOf wA wr l (.slice a1 (idsL l k).length c1) (.slice a2 (sgnL l k).length c2) (.slice a3 n c3) k))
      case atStart => exact ⟨0, _, _, 0, 0, Nat.zero_le _, rfl, rfl, rfl, rfl, S0⟩
      case round =>
        obtain ⟨k, a1, a2, c1, c2, hk, rfl, rfl, rfl, rfl, hh⟩ := hrel
        clear S0
        obtain ⟨n0, n1⟩ := KA.out _ hh.out.bel
        have hz0 : w.heap.size < wr.heap.size := World.block_lt_of_cell? wr _ n0
        by_cases hlt : k < n
        · obtain ⟨b0, off0, rfl, hbw, x0, x1, x2, x3⟩ := QAt.get (H.out.below (bstep BA.out hh.out.bel)) k hlt
          obtain ⟨g3, rfl, hg31, hg32⟩ := own_some hh.out.o3 (by omega)
          have hcl := hh.out.o3.cell (k := k) hlt
          have hLL : (idsL l k).length ≤ k ∧ (sgnL l k).length ≤ k := by have := idsL_len l k; omega
          by_cases hs : (loopS l)[k]?.getD 0 = 0
          · have E := hid (idsL_no hs)
            rw [hs] at hcl
            go_wp2
            go_roundg (n - (k + 1))
            case rel =>
              refine ⟨k + 1, a1, a2, c1, c2, by omega, rfl, by go_num, by rw [E.out.1], by rw [E.out.2], hid ?_⟩
              rw [E.out.1, E.out.2]
              exact ⟨by rw [E.out.1]; exact hh.out.o1, by rw [E.out.2]; exact hh.out.o2, hh.out.o3, hh.out.bel, hh.out.a12, hh.out.a13, hh.out.a23⟩
            case measure => omega
          · have E := hid (idsL_yes hs)
            obtain ⟨sg, hsg⟩ : ∃ sg, (loopS l)[k]?.getD 0 = sg := ⟨_, rfl⟩
            obtain ⟨pid, hpid⟩ : ∃ pid, (pp l k).1 = pid := ⟨_, rfl⟩
            rw [hsg] at hs hcl
            have hs2 : (sg != 0) = true := by simpa using hs
            have HSG := hid hsg
            rw [hsg, hpid] at E
            rw [hpid] at x0
            clear hsg hpid x1 x2 x3
            go_wp2_with (at_builtin; refine wp_append_ints _ rfl _ _ rfl wA.heap.size _ (idsL l k) rfl (hh.out.o1.alloc _) _ 1 1 [pid] rfl (IntsAt.single _ _) ((idsL l k).length + 1) (by simp) (by omega) (by have := hh.out.bel.size; simp; omega) ?_)
            intro a5 c5 w5 hown hgrow hblk
            have hsz := hgrow.size
            simp only [World.size_alloc] at hsz
            have hgr2 : wr.grownBy w5 (Value.ownBlock (.slice a1 (idsL l k).length c1)) := grownBy_trans (grown_of_below (by go_grown) _) hgrow
            have hnn : ApL (Value.ownBlock (.slice a5 ((idsL l k).length + 1) c5)) (Value.ownBlock (.slice a2 (sgnL l k).length c2)) ∧ ApL (Value.ownBlock (.slice a5 ((idsL l k).length + 1) c5)) (Value.ownBlock (.slice (some ⟨g3, 0, none⟩) n c3)) := ⟨ApL.new hh.out.a12 hblk hh.out.o2 (by simp), ApL.new hh.out.a13 hblk hh.out.o3 (by simp)⟩
            have S5 := hid (show OwnI w5 wA.heap.size (.slice a5 ((idsL l k).length + 1) c5) (idsL l k ++ [pid]) ∧ OwnI w5 wA.heap.size (.slice a2 (sgnL l k).length c2) (sgnL l k) ∧ OwnI w5 wA.heap.size (.slice (some ⟨g3, 0, none⟩) n c3) (loopS l) ∧ Below wA.heap.size wA w5 from
              ⟨hown, hh.out.o2.kept hgr2 hh.out.a12.symm, hh.out.o3.kept hgr2 hh.out.a13.symm, hh.out.bel.grown hgr2 hh.out.bel.size (fun q hq => (hh.out.o1.lt q hq).1)⟩)
            have HNN := hid hnn
            have hcl5 := S5.out.2.2.1.cell (k := k) hlt
            rw [HSG.out] at hcl5
            clear hown hgrow hblk hgr2 hnn hcl n0 n1 x0 hbw
            have hg35 : g3 < w5.heap.size := by omega
            go_wp2_with (at_builtin; refine wp_append_ints _ rfl _ _ rfl wA.heap.size _ (sgnL l k) rfl (S5.out.2.1.alloc _) _ 1 1 [sg] rfl (IntsAt.single _ _) ((sgnL l k).length + 1) (by simp) (by omega) (by have := S5.out.2.2.2.size; simp; omega) ?_)
            intro a6 c6 w6 hown hgrow hblk
            have hgr2 : w5.grownBy w6 (Value.ownBlock (.slice a2 (sgnL l k).length c2)) := grownBy_trans (grown_of_below (by go_grown) _) hgrow
            have hl1 : (idsL l k).length + 1 = (idsL l (k + 1)).length := by rw [E.out.1]; simp
            have hl2 : (sgnL l k).length + 1 = (sgnL l (k + 1)).length := by rw [E.out.2]; simp
            have S6 := hid (show LpOf wA w6 l (.slice a5 ((idsL l k).length + 1) c5) (.slice a6 ((sgnL l k).length + 1) c6) (.slice (some ⟨g3, 0, none⟩) n c3) (k + 1) from
              ⟨by rw [E.out.1]; exact S5.out.1.kept hgr2 HNN.out.1, by rw [E.out.2]; exact hown, S5.out.2.2.1.kept hgr2 hh.out.a23.symm, S5.out.2.2.2.grown hgr2 S5.out.2.2.2.size (fun q hq => (S5.out.2.1.lt q hq).1), (ApL.new HNN.out.1.symm hblk S5.out.1 (by simp)).symm, HNN.out.2, ApL.new hh.out.a23 hblk S5.out.2.2.1 (by simp)⟩)
            rw [hl1, hl2] at S6
            have HL1 := hid hl1
            have HL2 := hid hl2
            clear hown hgrow hblk hgr2 hl1 hl2 hcl5
            go_wp2
            go_roundg (n - (k + 1))
            case rel => exact ⟨k + 1, _, _, _, _, by omega, rfl, by go_num, by rw [HL1.out], by rw [HL2.out], S6⟩
            case measure => omega
        · obtain rfl : n = k := by omega
          go_wp2
          refine bodyPost_ret (v := .tuple #[.slice a1 (idsL l n).length c1, .slice a2 (sgnL l n).length c2, .bool true]) (by simp [results, Try.results23, go_sem]) rfl ?_
          exact ⟨_, _, _, _, rfl, hh.out.o1.mono BA.out.size, hh.out.o2.mono BA.out.size, hh.out.a12, bstep BA.out hh.out.bel⟩

end Go.Proofs.Ytikjighlnpdgiaa

/-
  What the laws do with pipes and networks: they mark them and look at the marks.
-/
set_option linter.unusedVariables false
set_option linter.unusedSimpArgs false
namespace Go.Proofs.Ytikjighlnpdgiaa
open Go.RowKit

/-- The marked list. -/
def markedPipe (k0 : Int) (n : Nat) : List Pip := (List.range n).map (fun i : Nat => ((k0 + 4 * (i : Int), k0 + 4 * (i : Int) + 1, k0 + 4 * (i : Int) + 1 + 1, k0 + 4 * (i : Int) + 1 + 1 + 1) : Pip))
theorem markedPipe_len (k0 : Int) (n : Nat) : (markedPipe k0 n).length = n := by simp [markedPipe]
theorem markedPipe_get (k0 : Int) (n i : Nat) (h : i < n) : (markedPipe k0 n)[i]?.getD default = ((k0 + 4 * (i : Int), k0 + 4 * (i : Int) + 1, k0 + 4 * (i : Int) + 1 + 1, k0 + 4 * (i : Int) + 1 + 1 + 1) : Pip) := by simp [markedPipe, h]

set_option maxHeartbeats 2000000 in
theorem l_markPipeS (a : Option Addr) (n c B : Nat) (l : List Pip) (k0 : Int) (w : World) (h : OwnQ w B (.slice a n c) l) (hn : n ≤ 1048576) (hk : 0 ≤ k0 ∧ k0 ≤ 1000000000000) :
    Calls Try.prog 53 #[.slice a n c, .int .i64 k0] w fun e w' => e = .returned (.int .i64 (k0 + 4 * (n : Int))) ∧ OwnQ w' B (.slice a n c) (markedPipe k0 n) ∧ w.grownBy w' (Value.ownBlock (.slice a n c)) := by
  have h0 := h
  unfold OwnQ OwnS at h
  rcases h.2 with ⟨h1, h0'⟩ | ⟨g, cap, cur, h1, hB, hg, hnc, hm, hs, ht⟩
  · simp only [Value.slice.injEq] at h1
    obtain ⟨rfl, rfl, rfl⟩ := h1
    clear h h0 h0'
    go_enter Try.func53, Try.ntmps53
    go_wp2
    refine wp_loop_rounds 1 ?_
    rw [rounds_succ]
    go_wp2
    go_ret
    exact ⟨ret_int (by simp), OwnS.nil _ _, World.grownBy.refl _ _⟩
  · simp only [Value.slice.injEq] at h1
    obtain ⟨rfl, -, rfl⟩ := h1
    clear hg hs ht hm hnc hB h
    have H := hid h0
    have HN := hid (OwnS.len h0)
    clear h0
    go_enter Try.func53, Try.ntmps53
    go_wp2
    go_loopw [1, 5] (fun s i wr => ∃ (k : Nat) (l' : List Pip), k ≤ n ∧ i = .int .i64 k ∧ s = .int .i64 (k0 + 4 * (k : Int)) ∧ Hid (OwnQ wr B (.slice (some ⟨g, 0, none⟩) n c) l' ∧ l'.take k = (markedPipe k0 n).take k ∧ w.grownBy wr (some g))) (fun _ i _ => n - (intOf i).toNat)
    case atStart => exact ⟨0, l, Nat.zero_le _, rfl, by simp, H.out, by simp, World.grownBy.refl _ _⟩
    case round =>
      obtain ⟨k, l', hkn, rfl, rfl, hh⟩ := hrel
      by_cases hlt : k < n
      · obtain ⟨y0, y1, y2, y3⟩ := hh.out.1.cells (k := k) hlt
        obtain ⟨f0, f1, f2, f3⟩ := hh.out.1.frozen (k := k)
        go_wp2
        go_roundw
        case rel =>
          obtain ⟨o1, g1⟩ := OwnS.setAll qf_len (by decide) hh.out.1 hlt ((k0 + 4 * (k : Int), k0 + 4 * (k : Int) + 1, k0 + 4 * (k : Int) + 1 + 1, k0 + 4 * (k : Int) + 1 + 1 + 1) : Pip)
          exact ⟨k + 1, _, by omega, by go_num, by congr 1; omega, o1, by rw [← markedPipe_get k0 n k hlt]; exact take_setS (markedPipe_len _ _) hh.out.1.len hlt hh.out.2.1, grownBy_trans hh.out.2.2 g1⟩
        case measure => simp [intOf]; omega
      · go_wp2
        go_ret
        obtain rfl : k = n := by omega
        refine ⟨ret_int (by omega), ?_, hh.out.2.2⟩
        have e := hh.out.2.1
        rw [List.take_of_length_le (by have := hh.out.1.len; omega), List.take_of_length_le (by rw [markedPipe_len]; omega)] at e
        subst e
        exact hh.out.1

theorem l_markNetwork (N : Int) (a : Option Addr) (n c B : Nat) (l : List Pip) (k0 : Int) (w : World) (h : OwnQ w B (.slice a n c) l) (hn : n ≤ 1048576) (hk : 0 ≤ k0 ∧ k0 ≤ 1000000000000) :
    Calls Try.prog 12 #[.agg #[.int .i64 N, .slice a n c], .int .i64 k0] w fun e w' => e = .returned (.int .i64 (k0 + 4 * (n : Int))) ∧ OwnQ w' B (.slice a n c) (markedPipe k0 n) ∧ w.grownBy w' (Value.ownBlock (.slice a n c)) := by
  have H := hid h
  clear h
  go_enter Try.func12, Try.ntmps12
  go_wp2_with fail
  refine (l_markPipeS _ _ _ B l _ _ (OwnS.alloc H.out _) (by omega) hk).mono ?_
  rintro e w1 ⟨rfl, ho, hg⟩
  have HO := hid ho
  have HG := hid (grownBy_trans (grown_of_below ((Below.refl w.heap.size w).alloc (Nat.le_refl _) _) _) hg)
  clear ho hg
  go_wp2
  go_ret
  exact ⟨rfl, HO.out, HG.out⟩


end Go.Proofs.Ytikjighlnpdgiaa

/-
  slices.Delete of one pipe.
-/
set_option linter.unusedVariables false
set_option linter.unusedSimpArgs false
namespace Go.Proofs.Ytikjighlnpdgiaa
open Go.RowKit

def putL (xs : List Value) : Nat → List Value → List Value
  | _, [] => xs
  | o, v :: r => putL (xs.set o v) (o + 1) r
theorem putL_eq : ∀ (vs xs : List Value) (o : Nat), o + vs.length ≤ xs.length → putL xs o vs = xs.take o ++ vs ++ xs.drop (o + vs.length)
  | [], xs, o, h => by simp [putL]
  | v :: r, xs, o, h => by
    simp only [List.length_cons] at h
    rw [putL, putL_eq r (xs.set o v) (o + 1) (by simp; omega)]
    have hlt : o < xs.length := by omega
    rw [List.take_add_one, List.getElem?_set_self hlt, List.take_set_of_le (Nat.le_refl o), List.drop_set_of_lt (by omega)]
    simp only [Option.toList_some, List.length_cons, List.append_assoc, List.singleton_append, List.cons_append, List.nil_append]
    rw [show o + (r.length + 1) = o + 1 + r.length by omega]
theorem own_setCells {base : Nat} {e : TypeId} {size g cap n : Nat} : ∀ (vs : List Value) (o : Nat) (w : World) (xs : List Value), w.ownsRow base e size (.slice (some ⟨g, 0, none⟩) n cap) n xs → (w.setCells g o vs).ownsRow base e size (.slice (some ⟨g, 0, none⟩) n cap) n (putL xs o vs) ∧ w.grownBy (w.setCells g o vs) (some g)
  | [], _, w, _, h => ⟨h, grown_of_below (Below.refl _ _) _⟩
  | v :: r, o, w, xs, h => by
    obtain ⟨h1, h2⟩ := World.ownsRow.stored h o v
    obtain ⟨h3, h4⟩ := own_setCells r (o + 1) _ _ h1
    exact ⟨h3, grownBy_trans h2 h4⟩
theorem flat_take (l : List Pip) (i : Nat) : (l.flatMap qf).take (i * 4) = (l.take i).flatMap qf := by
  by_cases h : i ≤ l.length
  · have e : l.flatMap qf = (l.take i).flatMap qf ++ (l.drop i).flatMap qf := by rw [← List.flatMap_append, List.take_append_drop]
    have e2 : ((l.take i).flatMap qf).length = i * 4 := by rw [flat_len qf 4 qf_len, List.length_take]; congr 1; omega
    rw [e, ← e2, List.take_left']
    rfl
  · rw [List.take_of_length_le (by rw [flat_len qf 4 qf_len]; omega), List.take_of_length_le (l := l) (by omega)]
theorem run_clear_one {P : Program} (w : World) (t e ty : TypeId) (z : Value) (ht : P.underlying t = some (.slice e)) (hv : ∀ w, (zeroValue e).run P w = .ok z w) (h1 : ∀ u ∈ z.cells.toList, u.oneCell' = true) (b o c : Nat)
    (hc : ∀ j, j < z.cells.toList.length → (w.cell? ⟨b, o + j, none⟩).isSome = true) (hf : ∀ j, j < z.cells.toList.length → w.frozen? ⟨b, o + j, none⟩ = false) :
    (Builtin.clear_ #[t] ty #[.slice (some ⟨b, o, none⟩) 1 c]).run P w = .ok (.tuple #[]) (w.setCells b o z.cells.toList) := by
  have hzc : (Builtin.zeroCells z.cells 1).toList = z.cells.toList := by
    simp [Builtin.zeroCells]
    apply List.ext_getElem
    · simp
    · intro i h1 h2
      simp at h1 h2
      simp [Nat.mod_eq_of_lt h2]
      rw [getElem!_pos z.cells i (by assumption)]
  have hst := run_storeCells_cells (P := P) b o z.cells.toList 0 w (by simpa using hc) (by simpa using hf) h1
  simp only [Nat.add_zero] at hst
  simp [Builtin.clear_, run_underlying ht, hv, hzc, hst]

theorem flat_drop (l : List Pip) (i : Nat) : (l.flatMap qf).drop (i * 4) = (l.drop i).flatMap qf := by
  have h1 := List.take_append_drop (i * 4) (l.flatMap qf)
  rw [flat_take] at h1
  have h2 : (l.take i).flatMap qf ++ (l.drop i).flatMap qf = l.flatMap qf := by rw [← List.flatMap_append, List.take_append_drop]
  rw [← h2] at h1
  have h3 := List.append_cancel_left h1
  rw [h2] at h3
  exact h3
theorem Try.zeroPipe : ∀ w, (zeroValue 71).run Try.prog w = .ok (.agg #[.int .i64 0, .int .i64 0, .int .i64 0, .int .i64 0]) w := by
  intro w
  kernel_rfl

set_option maxRecDepth 100000 in
set_option maxHeartbeats 4000000 in
theorem f_DeletePipe (g n c i J B : Nat) (l : List Pip) (w : World) (h : OwnQ w B (.slice (some ⟨g, 0, none⟩) n c) l) (hn : n ≤ 1000) (hi : i < n) (hJ : J = i + 1) :
    Calls Try.prog 47 #[.slice (some ⟨g, 0, none⟩) n c, .int .i64 i, .int .i64 J] w fun e w' => e = .returned (.slice (some ⟨g, 0, none⟩) (n - 1) c) ∧ OwnQ w' B (.slice (some ⟨g, 0, none⟩) (n - 1) c) (l.eraseIdx i) ∧ w.grownBy w' (some g) := by
  obtain ⟨i0, hi0, hz0, hz1, hz2⟩ := info_parts Try.infoPipe
  have hl := OwnS.len h
  have hrow := OwnS.row h
  have hcap : n ≤ c := own_capQ h
  have hcm : c ≤ 9223372036854775807 := by
    rcases h.2 with ⟨h1, h0⟩ | ⟨g', cap, cur, h1, hB, hg, hnc, hm, hs, ht⟩
    · simp at h1
    · simp only [Value.slice.injEq] at h1
      obtain ⟨-, -, rfl⟩ := h1
      unfold maxLen at hm
      omega
  have hgz := (OwnS.lt h g rfl).2
  have hcell : ∀ t, t < n * 4 → w.cell? ⟨g, t, none⟩ = (l.flatMap qf)[t]? := fun t ht => World.ownsRow.cellAt hrow t ht
  have hfro : ∀ t, w.frozen? ⟨g, t, none⟩ = false := fun t => World.ownsRow.frozenAt hrow t
  have hfl := flat_len qf 4 qf_len l
  rw [hl] at hfl
  obtain ⟨news, hnews⟩ : ∃ news, news = (l.drop J).flatMap qf := ⟨_, rfl⟩
  have hnl : news.length = (n - J) * 4 := by rw [hnews, flat_len qf 4 qf_len, List.length_drop, hl]
  obtain ⟨h1, h2⟩ := own_setCells news (i * 4) w.drew _ (World.ownsRow.drew hrow)
  have he : l.take i ++ l.drop J = l.eraseIdx i := by rw [hJ, ← List.eraseIdx_eq_take_drop_succ]
  have hel : (l.eraseIdx i).length = n - 1 := by rw [List.length_eraseIdx_of_lt (by omega)]; omega
  have hput1 : putL (l.flatMap qf) (i * 4) news = (l.eraseIdx i).flatMap qf ++ (l.flatMap qf).drop ((n - 1) * 4) := by
    rw [putL_eq _ _ _ (by rw [hfl, hnl]; omega), flat_take, hnl, hnews, ← List.flatMap_append, he, show i * 4 + (n - J) * 4 = (n - 1) * 4 by omega]
  obtain ⟨W1, hW1⟩ : ∃ W1, W1 = w.drew.setCells g (0 + i * 4) news := ⟨_, rfl⟩
  rw [← Nat.zero_add (i * 4)] at h1 h2
  rw [← hW1] at h1 h2
  rw [Nat.zero_add, hput1] at h1
  have hel2 : ((l.eraseIdx i).flatMap qf).length = (n - 1) * 4 := by rw [flat_len qf 4 qf_len, hel]
  have hdl : ((l.flatMap qf).drop ((n - 1) * 4)).length = 4 := by rw [List.length_drop, hfl]; omega
  obtain ⟨h3, h4⟩ := own_setCells [.int .i64 0, .int .i64 0, .int .i64 0, .int .i64 0] ((n - 1) * 4) W1 _ h1
  have hput2 : putL ((l.eraseIdx i).flatMap qf ++ (l.flatMap qf).drop ((n - 1) * 4)) ((n - 1) * 4) [.int .i64 0, .int .i64 0, .int .i64 0, .int .i64 0] = (l.eraseIdx i).flatMap qf ++ [.int .i64 0, .int .i64 0, .int .i64 0, .int .i64 0] := by
    rw [putL_eq _ _ _ (by rw [List.length_append, hel2, hdl]; simp), List.take_left' hel2, List.drop_of_length_le (by rw [List.length_append, hel2, hdl]; simp), List.append_nil]
  rw [hput2] at h3
  have hcell1 : ∀ t, t < n * 4 → (W1.cell? ⟨g, t, none⟩).isSome = true := fun t ht => by
    rw [World.ownsRow.cellAt h1 t ht, List.getElem?_eq_getElem (by rw [List.length_append, hel2, hdl]; omega)]
    rfl
  have hfro1 : ∀ t, W1.frozen? ⟨g, t, none⟩ = false := fun t => World.ownsRow.frozenAt h1 t
  have hfin : OwnQ (W1.setCells g ((n - 1) * 4) [.int .i64 0, .int .i64 0, .int .i64 0, .int .i64 0]) B (.slice (some ⟨g, 0, none⟩) (n - 1) c) (l.eraseIdx i) := by
    refine OwnS.of_row qf_len (by decide) (n := n - 1) ?_
    refine ownsRow_pop (last := [.int .i64 0, .int .i64 0, .int .i64 0, .int .i64 0]) hel2 ?_
    rw [show n - 1 + 1 = n by omega]
    exact h3
  have HFIN := hid (show OwnQ (W1.setCells g ((n - 1) * 4) [.int .i64 0, .int .i64 0, .int .i64 0, .int .i64 0]) B (.slice (some ⟨g, 0, none⟩) (n - 1) c) (l.eraseIdx i) ∧ w.grownBy (W1.setCells g ((n - 1) * 4) [.int .i64 0, .int .i64 0, .int .i64 0, .int .i64 0]) (some g) from ⟨hfin, grownBy_trans (grownBy_trans (grown_of_below ((Below.refl _ _).drew) _) h2) h4⟩)
  obtain ⟨A, hA, hsrc⟩ : ∃ A : Addr, (if c = J then (some ⟨g, 0, none⟩ : Option Addr) else some ⟨g, J * 4, none⟩) = some A ∧ Hid (∀ t u, news[t]? = some u → w.drew.cell? (A.add t) = some u) := by
    by_cases hc : c = J
    · refine ⟨⟨g, 0, none⟩, by simp [hc], fun t u hu => ?_⟩
      have h0 : news.length = 0 := by rw [hnl]; omega
      rw [List.length_eq_zero_iff.1 h0] at hu
      simp at hu
    · refine ⟨⟨g, J * 4, none⟩, by simp [hc], fun t u hu => ?_⟩
      have ht : t < (n - J) * 4 := by rw [← hnl]; exact (List.getElem?_eq_some_iff.1 hu).1
      rw [addr_add]
      show w.cell? ⟨g, J * 4 + t, none⟩ = some u
      rw [hcell _ (by omega), ← hu, hnews, ← flat_drop, List.getElem?_drop]
  have s1 : Hid (news.length = (n - J) * 4) := hnl
  have s2 : Hid (∀ u ∈ news, u.oneCell' = true) := by
    intro u hu
    rw [hnews] at hu
    obtain ⟨x, -, hx⟩ := List.mem_flatMap.1 hu
    exact qf_one x u hx
  have s3 : Hid (∀ t, t < news.length → (w.drew.cell? ⟨g, 0 + i * 4 + t, none⟩).isSome = true ∧ w.drew.frozen? ⟨g, 0 + i * 4 + t, none⟩ = false) := by
    intro t ht
    rw [hnl] at ht
    refine ⟨?_, hfro _⟩
    show (w.cell? _).isSome = true
    rw [Nat.zero_add, hcell _ (by omega), List.getElem?_eq_getElem (by rw [hfl]; omega)]
    rfl
  have hcl : ∀ ty cc, (Builtin.clear_ #[29] ty #[.slice (some ⟨g, (n - 1) * 4, none⟩) 1 cc]).run Try.prog W1 = .ok (.tuple #[]) (W1.setCells g ((n - 1) * 4) [.int .i64 0, .int .i64 0, .int .i64 0, .int .i64 0]) := fun ty cc =>
    run_clear_one W1 _ _ ty (.agg #[.int .i64 0, .int .i64 0, .int .i64 0, .int .i64 0]) Try.underlying29 Try.zeroPipe (by intro u hu; simp [Value.cells] at hu; subst hu; rfl) g ((n - 1) * 4) cc (fun j hj => hcell1 _ (by simp [Value.cells] at hj; omega)) (fun j hj => hfro1 _)
  have hW : Hid (W1 = w.drew.setCells g (0 + i * 4) news) := hW1
  have X := hid hcl
  have hJ0 : (0 : Int) ≤ (J : Int) := by omega
  have hi0' : (0 : Int) ≤ (i : Int) := by omega
  have k1 : (i : Int) ≤ (J : Int) := by omega
  have k2 : (J : Int) ≤ (n : Int) := by omega
  have k3 : (n : Int) ≤ (c : Int) := by omega
  have k4 : ((i : Int) == (J : Int)) = false := by simp; omega
  have k5 : (i : Int) ≤ (n : Int) := by omega
  have k6 : (i : Int) ≤ (c : Int) := by omega
  have k7 : (J : Int) ≤ (c : Int) := by omega
  have HN := hid (show n - J + i = n - 1 ∧ i + (n - J) = n - 1 from by omega)
  clear h1 h2 h3 h4 hW1 hput1 hput2 hcell hcell1 hfro hfro1 hfin hcl hnews hnl he hel hel2 hdl hfl hrow h hJ
  go_enter Try.func47, Try.ntmps47
  go_upto_region 5 with fail
  go_region_law (refine step_append_room rfl (.tmp 22) (.tmp 25) 29 rfl 71 i0 4 Try.underlying29 hi0 hz1 g 0 i c (by simp [Act.eval, Act.put]) A (n - J) (c - J) news (by simp [Act.eval, Act.put]) s1.out hsrc.out s2.out (by omega) s3.out ?_; rw [← hW.out])
  have hcl2 : ∀ ty, (Builtin.clear_ #[29] ty #[.slice (some ⟨g, (i + (n - J)) * 4, none⟩) (n - (i + (n - J))) (c - (i + (n - J)))]).run Try.prog W1 = .ok (.tuple #[]) (W1.setCells g ((n - 1) * 4) [.int .i64 0, .int .i64 0, .int .i64 0, .int .i64 0]) := fun ty => by
    rw [HN.out.2, show n - (n - 1) = 1 by omega]
    exact X.out ty _
  have hcc : ¬ c = i + (n - J) := by have := HN.out; omega
  go_wp2
  go_ret
  rw [HN.out.2]
  exact ⟨rfl, HFIN.out.1, HFIN.out.2⟩

end Go.Proofs.Ytikjighlnpdgiaa

