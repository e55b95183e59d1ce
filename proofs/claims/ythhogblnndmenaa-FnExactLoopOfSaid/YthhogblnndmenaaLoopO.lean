/-
  LoopOf, in the program and in the reference.
-/
import Derived.Test.YthhogblnndmenaaLoopI
import Derived.Test.YthhogblnndmenaaLoopS
import Derived.Test.YthhogblnndmenaaRingF
set_option linter.unusedVariables false
set_option linter.unusedSimpArgs false
namespace Go.Proofs.Ythhogblnndmenaa
open Go.RowKit

def ApL (x y : Option Nat) : Prop := x = none ∨ x ≠ y
theorem ApL.symm {x y : Option Nat} (h : ApL x y) : ApL y x := by
  rcases h with h | h
  · subst h
    cases y with
    | none => exact .inl rfl
    | some k => exact .inr (by simp)
  · exact .inr (fun e => h e.symm)
theorem ApL.new {w : World} {B Z : Nat} {v u v' : Value} {l : List Int} (h : ApL v.ownBlock u.ownBlock) (hb : v'.ownBlock = v.ownBlock ∨ v'.ownBlock = some Z) (hu : OwnI w B u l) (hz : w.heap.size ≤ Z) : ApL v'.ownBlock u.ownBlock := by
  rcases hb with e | e
  · rw [e]; exact h
  · rw [e]
    exact .inr (fun e2 => by have := (hu.lt Z e2.symm).2; omega)
theorem ApL.young {w : World} {B B' : Nat} {v u : Value} {l l' : List Int} (hu : OwnI w B u l) (hv : OwnI w B' v l') (hb : ∀ k, u.ownBlock = some k → k < B') : ApL v.ownBlock u.ownBlock := by
  cases e : v.ownBlock with
  | none => exact .inl rfl
  | some k => exact .inr (fun e2 => by have h1 := (hv.lt k e).1; have h2 := hb k e2.symm; omega)
/-- The pipes of the loop and their signs, among the first k. -/
noncomputable def idsL (l : List Pip) : Nat → List Int
  | 0 => []
  | k + 1 => if (loopS l)[k]?.getD 0 = 0 then idsL l k else idsL l k ++ [(pp l k).1]
noncomputable def sgnL (l : List Pip) : Nat → List Int
  | 0 => []
  | k + 1 => if (loopS l)[k]?.getD 0 = 0 then sgnL l k else sgnL l k ++ [(loopS l)[k]?.getD 0]
theorem idsL_no {l : List Pip} {k : Nat} (h : (loopS l)[k]?.getD 0 = 0) : idsL l (k + 1) = idsL l k ∧ sgnL l (k + 1) = sgnL l k := by
  rw [idsL, sgnL, if_pos h, if_pos h]
  exact ⟨rfl, rfl⟩
theorem idsL_yes {l : List Pip} {k : Nat} (h : ¬ (loopS l)[k]?.getD 0 = 0) : idsL l (k + 1) = idsL l k ++ [(pp l k).1] ∧ sgnL l (k + 1) = sgnL l k ++ [(loopS l)[k]?.getD 0] := by
  rw [idsL, sgnL, if_neg h, if_neg h]
  exact ⟨rfl, rfl⟩
theorem idsL_len (l : List Pip) : ∀ k, (idsL l k).length ≤ k ∧ (sgnL l k).length = (idsL l k).length
  | 0 => by simp [idsL, sgnL]
  | k + 1 => by
    have h1 := idsL_len l k
    by_cases h : (loopS l)[k]?.getD 0 = 0
    · rw [(idsL_no h).1, (idsL_no h).2]; omega
    · rw [(idsL_yes h).1, (idsL_yes h).2]; simp; omega
/-- What both walks carry. -/
structure LpOf (w W : World) (l : List Pip) (s1 s2 s3 : Value) (k : Nat) : Prop where
  o1 : OwnI W w.heap.size s1 (idsL l k)
  o2 : OwnI W w.heap.size s2 (sgnL l k)
  o3 : OwnI W w.heap.size s3 (loopS l)
  bel : Below w.heap.size w W
  a12 : ApL s1.ownBlock s2.ownBlock
  a13 : ApL s1.ownBlock s3.ownBlock
  a23 : ApL s2.ownBlock s3.ownBlock
theorem LpOf.below {w W W' : World} {l : List Pip} {s1 s2 s3 : Value} {k : Nat} (h : LpOf w W l s1 s2 s3 k) (hb : Below W.heap.size W W') : LpOf w W' l s1 s2 s3 k :=
  ⟨h.o1.below hb, h.o2.below hb, h.o3.below hb, bstep h.bel hb, h.a12, h.a13, h.a23⟩

/-- What LoopOf returns. -/
noncomputable def loopR (N : Int) (l : List Pip) : List Int × List Int × Bool := if (goodNet N l && ringB N l) = true then (idsL l l.length, sgnL l l.length, true) else ([], [], false)
theorem loopR_no {N : Int} {l : List Pip} (h : (goodNet N l && ringB N l) = false) : loopR N l = ([], [], false) := by
  unfold loopR
  rw [if_neg (by rw [h]; simp)]
theorem loopR_len {N : Int} {l : List Pip} {R S : List Int} {b : Bool} (h : loopR N l = (R, S, b)) : R.length ≤ 1000 ∧ S.length ≤ 1000 := by
  unfold loopR at h
  split at h
  · rename_i h1
    cases h
    have h2 := idsL_len l l.length
    have := (goodNet_get ((Bool.and_eq_true _ _).mp h1).1).2.1
    omega
  · cases h; simp

set_option maxRecDepth 100000 in
set_option maxHeartbeats 4000000 in
theorem i_LoopOf (N : Int) (a : Option Addr) (n c : Nat) (l : List Pip) (w : World) (h : QAt w a n l) (hn : n ≤ 1048576) (R S : List Int) (q : Bool) (hR : loopR N l = (R, S, q)) :
    Calls Try.prog 27 #[.agg #[.int .i64 N, .slice a n c]] w fun e w' => ∃ a1 c1 a2 c2, e = .returned (.tuple #[.slice a1 R.length c1, .slice a2 S.length c2, .bool q]) ∧ OwnI w' w.heap.size (.slice a1 R.length c1) R ∧ OwnI w' w.heap.size (.slice a2 S.length c2) S ∧ ApL (Value.ownBlock (.slice a1 R.length c1)) (Value.ownBlock (.slice a2 S.length c2)) ∧ Below w.heap.size w w' := by
  have hl := h.1
  have H := hid h
  clear h
  cases h12 : (goodNet N l && ringB N l)
  · rw [loopR_no h12] at hR
    cases hR
    obtain ⟨M, rfl⟩ : ∃ M : Int, M = N := ⟨_, rfl⟩
    have HF := hid h12
    clear h12 hl
    go_enter Try.func27, Try.ntmps27
    go_upto_region 1 with fail
    have BA := hid (by go_grown : Below w.heap.size w (w.alloc (.cells #[.int .i64 M, .slice a n c] 31)))
    have N0 := hid (cell_of_row _ _ 0 _ _ (0, 0) (heap_alloc_new w (.cells #[.int .i64 M, .slice a n c] 31)))
    have N1 := hid (cell_of_row _ _ 1 _ _ (0, 0) (heap_alloc_new w (.cells #[.int .i64 M, .slice a n c] 31)))
    have hzA : w.heap.size < (w.alloc (.cells #[.int .i64 M, .slice a n c] 31)).heap.size := by simp
    have n0 := N0.out
    have n1 := N1.out
    simp only [List.getElem?_toArray, List.getElem?_cons_zero, List.getElem?_cons_succ] at n0 n1
    generalize w.alloc (.cells #[.int .i64 M, .slice a n c] 31) = wA at *
    have KA := hid (show ∀ wx, Below wA.heap.size wA wx → (wx.cell? ⟨w.heap.size, 0, none⟩ = some (.int .i64 M) ∧ wx.cell? ⟨w.heap.size, 1, none⟩ = some (.slice a n c)) from fun wx hb => ⟨(hb.cell (p := ⟨w.heap.size, 0, none⟩) hzA).trans n0, (hb.cell (p := ⟨w.heap.size, 1, none⟩) hzA).trans n1⟩)
    go_wp2_with fail
    refine (i_hasRing M _ _ _ l _ (H.out.below BA.out) hn).mono ?_
    rintro e w1 ⟨rfl, hb1⟩
    rw [HF.out]
    have HB1 := hid hb1
    obtain ⟨n0', n1'⟩ := KA.out _ hb1
    have hz1 : w.heap.size < w1.heap.size := World.block_lt_of_cell? w1 _ n0'
    clear n0 n1 hb1
    go_wp2
    refine bodyPost_ret (v := .tuple #[.slice none 0 0, .slice none 0 0, .bool false]) (by simp [results, Try.results27, go_sem]) rfl ?_
    exact ⟨_, _, _, _, rfl, OwnI.nil _ _, OwnI.nil _ _, .inl rfl, bstep BA.out HB1.out⟩
  · obtain ⟨h1, h2⟩ := (Bool.and_eq_true _ _).mp h12
    have hN := (goodNet_get h1).1
    obtain ⟨M, rfl⟩ : ∃ M : Nat, N = M := ⟨N.toNat, by omega⟩
    have HF := hid h12
    have e0 : loopR M l = (idsL l n, sgnL l n, true) := by
      unfold loopR
      rw [if_pos h12, hl]
    rw [e0] at hR
    cases hR
    have HLN := hid hl
    have HG := hid h1
    have HR := hid h2
    have hn10 : n ≤ 10 := by have := (goodNet_get h1).2.1; omega
    clear h1 h2 h12 hl hN e0
    go_enter Try.func27, Try.ntmps27
    go_upto_region 1 with fail
    have BA := hid (by go_grown : Below w.heap.size w (w.alloc (.cells #[.int .i64 M, .slice a n c] 31)))
    have N0 := hid (cell_of_row _ _ 0 _ _ (0, 0) (heap_alloc_new w (.cells #[.int .i64 M, .slice a n c] 31)))
    have N1 := hid (cell_of_row _ _ 1 _ _ (0, 0) (heap_alloc_new w (.cells #[.int .i64 M, .slice a n c] 31)))
    have hzA : w.heap.size < (w.alloc (.cells #[.int .i64 M, .slice a n c] 31)).heap.size := by simp
    have n0 := N0.out
    have n1 := N1.out
    simp only [List.getElem?_toArray, List.getElem?_cons_zero, List.getElem?_cons_succ] at n0 n1
    generalize w.alloc (.cells #[.int .i64 M, .slice a n c] 31) = wA at *
    have KA := hid (show ∀ wx, Below wA.heap.size wA wx → (wx.cell? ⟨w.heap.size, 0, none⟩ = some (.int .i64 M) ∧ wx.cell? ⟨w.heap.size, 1, none⟩ = some (.slice a n c)) from fun wx hb => ⟨(hb.cell (p := ⟨w.heap.size, 0, none⟩) hzA).trans n0, (hb.cell (p := ⟨w.heap.size, 1, none⟩) hzA).trans n1⟩)
    go_wp2_with fail
    refine (i_hasRing M _ _ _ l _ (H.out.below BA.out) hn).mono ?_
    rintro e w1 ⟨rfl, hb1⟩
    rw [HF.out]
    have HB1 := hid hb1
    obtain ⟨n0', n1'⟩ := KA.out _ hb1
    have hz1 : w.heap.size < w1.heap.size := World.block_lt_of_cell? w1 _ n0'
    clear n0 n1 hb1
    have hz1' := HB1.out.size
    have L1 := hid ((OwnI.lit0 w1).mono (B' := wA.heap.size) hz1')
    have L2 := hid ((OwnI.lit0 (w1.alloc (.cells #[] 3))).mono (B' := wA.heap.size) (by simp; omega))
    rw [show (w1.alloc (.cells #[] 3)).heap.size = w1.heap.size + 1 by simp] at L2
    have LB := hid (bstep HB1.out (by go_grown) : Below wA.heap.size wA ((w1.alloc (.cells #[] 3)).alloc (.cells #[] 3)))
    have LA := hid (L1.out.alloc (.cells #[] 3))
    have hzz : ((w1.alloc (.cells #[] 3)).alloc (.cells #[] 3)).heap.size = w1.heap.size + 2 := by simp
    go_upto_region 4 with fail
    generalize (w1.alloc (.cells #[] 3)).alloc (.cells #[] 3) = w2 at *
    obtain ⟨m0, m1⟩ := KA.out _ LB.out
    clear n0' n1'
    go_wp2_with fail
    refine (i_loopOf M _ _ _ l _ (H.out.below (bstep BA.out LB.out)) HG.out HR.out).mono ?_
    rintro e w3 ⟨a3, c3, rfl, ho3, hb3⟩
    have S0 := hid (show LpOf wA w3 l (.slice (some ⟨w1.heap.size, 0, none⟩) 0 0) (.slice (some ⟨w1.heap.size + 1, 0, none⟩) 0 0) (.slice a3 n c3) 0 from
      ⟨LA.out.below hb3, L2.out.below hb3, ho3.mono LB.out.size, bstep LB.out hb3, .inr (by simp [Value.ownBlock]), (ApL.young (LA.out.below hb3) ho3 (fun k e => by have e2 : some w1.heap.size = some k := e; have := Option.some.inj e2; omega)).symm, (ApL.young (L2.out.below hb3) ho3 (fun k e => by have e2 : some (w1.heap.size + 1) = some k := e; have := Option.some.inj e2; omega)).symm⟩)
    clear m0 m1 hz1 hz1' ho3 hb3 L1 L2 LA LB hzz
    go_wp2
    go_loopg [5, 6, 17] n (fun g o u i wr => ∃ (k : Nat) (a1 a2 : Option Addr) (c1 c2 : Nat), k ≤ n ∧ g = n - k ∧ i = .int .i64 k ∧ o = .slice a1 (idsL l k).length c1 ∧ u = .slice a2 (sgnL l k).length c2 ∧ Hid (LpOf wA wr l (.slice a1 (idsL l k).length c1) (.slice a2 (sgnL l k).length c2) (.slice a3 n c3) k))
    case atStart => exact ⟨0, _, _, 0, 0, Nat.zero_le _, rfl, rfl, rfl, rfl, S0⟩
    case round =>
      obtain ⟨k, a1, a2, c1, c2, hk, rfl, rfl, rfl, rfl, hh⟩ := hrel
      clear S0
      obtain ⟨n0, n1⟩ := KA.out _ hh.out.bel
      have hz0 : w.heap.size < wr.heap.size := World.block_lt_of_cell? wr _ n0
      by_cases hlt : k < n
      · obtain ⟨b0, off0, rfl, hbw, x0, x1, x2, x3⟩ := QAt.get (H.out.below (bstep BA.out hh.out.bel)) k hlt
        obtain ⟨g3, rfl, hg31, hg32⟩ := own_some hh.out.o3 (by omega)
        have hcl := hh.out.o3.cell (k := k) hlt
        have hLL : (idsL l k).length ≤ k ∧ (sgnL l k).length ≤ k := by have := idsL_len l k; omega
        by_cases hs : (loopS l)[k]?.getD 0 = 0
        · have E := hid (idsL_no hs)
          rw [hs] at hcl
          go_wp2
          go_roundg (n - (k + 1))
          case rel =>
            refine ⟨k + 1, a1, a2, c1, c2, by omega, rfl, by go_num, by rw [E.out.1], by rw [E.out.2], hid ?_⟩
            rw [E.out.1, E.out.2]
            exact ⟨by rw [E.out.1]; exact hh.out.o1, by rw [E.out.2]; exact hh.out.o2, hh.out.o3, hh.out.bel, hh.out.a12, hh.out.a13, hh.out.a23⟩
          case measure => omega
        · have E := hid (idsL_yes hs)
          obtain ⟨sg, hsg⟩ : ∃ sg, (loopS l)[k]?.getD 0 = sg := ⟨_, rfl⟩
          obtain ⟨pid, hpid⟩ : ∃ pid, (pp l k).1 = pid := ⟨_, rfl⟩
          rw [hsg] at hs hcl
          have hs2 : (sg != 0) = true := by simpa using hs
          have HSG := hid hsg
          rw [hsg, hpid] at E
          rw [hpid] at x0
          clear hsg hpid x1 x2 x3
          go_wp2_with (at_builtin; refine wp_append_ints _ rfl _ _ rfl wA.heap.size _ (idsL l k) rfl (hh.out.o1.alloc _) _ 1 1 [pid] rfl (IntsAt.single _ _) ((idsL l k).length + 1) (by simp) (by omega) (by have := hh.out.bel.size; simp; omega) ?_)
          intro a5 c5 w5 hown hgrow hblk
          have hsz := hgrow.size
          simp only [World.size_alloc] at hsz
          have hgr2 : wr.grownBy w5 (Value.ownBlock (.slice a1 (idsL l k).length c1)) := grownBy_trans (grown_of_below (by go_grown) _) hgrow
          have hnn : ApL (Value.ownBlock (.slice a5 ((idsL l k).length + 1) c5)) (Value.ownBlock (.slice a2 (sgnL l k).length c2)) ∧ ApL (Value.ownBlock (.slice a5 ((idsL l k).length + 1) c5)) (Value.ownBlock (.slice (some ⟨g3, 0, none⟩) n c3)) := ⟨ApL.new hh.out.a12 hblk hh.out.o2 (by simp), ApL.new hh.out.a13 hblk hh.out.o3 (by simp)⟩
          have S5 := hid (show OwnI w5 wA.heap.size (.slice a5 ((idsL l k).length + 1) c5) (idsL l k ++ [pid]) ∧ OwnI w5 wA.heap.size (.slice a2 (sgnL l k).length c2) (sgnL l k) ∧ OwnI w5 wA.heap.size (.slice (some ⟨g3, 0, none⟩) n c3) (loopS l) ∧ Below wA.heap.size wA w5 from
            ⟨hown, hh.out.o2.kept hgr2 hh.out.a12.symm, hh.out.o3.kept hgr2 hh.out.a13.symm, hh.out.bel.grown hgr2 hh.out.bel.size (fun q hq => (hh.out.o1.lt q hq).1)⟩)
          have HNN := hid hnn
          have hcl5 := S5.out.2.2.1.cell (k := k) hlt
          rw [HSG.out] at hcl5
          clear hown hgrow hblk hgr2 hnn hcl n0 n1 x0 hbw
          have hg35 : g3 < w5.heap.size := by omega
          go_wp2_with (at_builtin; refine wp_append_ints _ rfl _ _ rfl wA.heap.size _ (sgnL l k) rfl (S5.out.2.1.alloc _) _ 1 1 [sg] rfl (IntsAt.single _ _) ((sgnL l k).length + 1) (by simp) (by omega) (by have := S5.out.2.2.2.size; simp; omega) ?_)
          intro a6 c6 w6 hown hgrow hblk
          have hgr2 : w5.grownBy w6 (Value.ownBlock (.slice a2 (sgnL l k).length c2)) := grownBy_trans (grown_of_below (by go_grown) _) hgrow
          have hl1 : (idsL l k).length + 1 = (idsL l (k + 1)).length := by rw [E.out.1]; simp
          have hl2 : (sgnL l k).length + 1 = (sgnL l (k + 1)).length := by rw [E.out.2]; simp
          have S6 := hid (show LpOf wA w6 l (.slice a5 ((idsL l k).length + 1) c5) (.slice a6 ((sgnL l k).length + 1) c6) (.slice (some ⟨g3, 0, none⟩) n c3) (k + 1) from
            ⟨by rw [E.out.1]; exact S5.out.1.kept hgr2 HNN.out.1, by rw [E.out.2]; exact hown, S5.out.2.2.1.kept hgr2 hh.out.a23.symm, S5.out.2.2.2.grown hgr2 S5.out.2.2.2.size (fun q hq => (S5.out.2.1.lt q hq).1), (ApL.new HNN.out.1.symm hblk S5.out.1 (by simp)).symm, HNN.out.2, ApL.new hh.out.a23 hblk S5.out.2.2.1 (by simp)⟩)
          rw [hl1, hl2] at S6
          have HL1 := hid hl1
          have HL2 := hid hl2
          clear hown hgrow hblk hgr2 hl1 hl2 hcl5
          go_wp2
          go_roundg (n - (k + 1))
          case rel => exact ⟨k + 1, _, _, _, _, by omega, rfl, by go_num, by rw [HL1.out], by rw [HL2.out], S6⟩
          case measure => omega
      · obtain rfl : n = k := by omega
        go_wp2
        refine bodyPost_ret (v := .tuple #[.slice a1 (idsL l n).length c1, .slice a2 (sgnL l n).length c2, .bool true]) (by simp [results, Try.results27, go_sem]) rfl ?_
        exact ⟨_, _, _, _, rfl, hh.out.o1.mono BA.out.size, hh.out.o2.mono BA.out.size, hh.out.a12, bstep BA.out hh.out.bel⟩

set_option maxRecDepth 100000 in
set_option maxHeartbeats 4000000 in
theorem s_LoopOf (N : Int) (a : Option Addr) (n c : Nat) (l : List Pip) (w : World) (h : QAt w a n l) (hn : n ≤ 1048576) (hc : n ≤ c) (R S : List Int) (q : Bool) (hR : loopR N l = (R, S, q)) :
    Calls Try.prog 26 #[.agg #[.int .i64 N, .slice a n c]] w fun e w' => ∃ a1 c1 a2 c2, e = .returned (.tuple #[.slice a1 R.length c1, .slice a2 S.length c2, .bool q]) ∧ OwnI w' w.heap.size (.slice a1 R.length c1) R ∧ OwnI w' w.heap.size (.slice a2 S.length c2) S ∧ ApL (Value.ownBlock (.slice a1 R.length c1)) (Value.ownBlock (.slice a2 S.length c2)) ∧ Below w.heap.size w w' := by
  have hl := h.1
  have H := hid h
  clear h
  cases h1 : goodNet N l
  · rw [loopR_no (by rw [h1]; rfl)] at hR
    cases hR
    obtain ⟨M, rfl⟩ : ∃ M : Int, M = N := ⟨_, rfl⟩
    have HG := hid h1
    clear h1 hl
    go_enter Try.func26, Try.ntmps26
    go_upto_region 1 with fail
    have BA := hid (by go_grown : Below w.heap.size w (w.alloc (.cells #[.int .i64 M, .slice a n c] 31)))
    have N0 := hid (cell_of_row _ _ 0 _ _ (0, 0) (heap_alloc_new w (.cells #[.int .i64 M, .slice a n c] 31)))
    have N1 := hid (cell_of_row _ _ 1 _ _ (0, 0) (heap_alloc_new w (.cells #[.int .i64 M, .slice a n c] 31)))
    have hzA : w.heap.size < (w.alloc (.cells #[.int .i64 M, .slice a n c] 31)).heap.size := by simp
    have n0 := N0.out
    have n1 := N1.out
    simp only [List.getElem?_toArray, List.getElem?_cons_zero, List.getElem?_cons_succ] at n0 n1
    generalize w.alloc (.cells #[.int .i64 M, .slice a n c] 31) = wA at *
    have KA := hid (show ∀ wx, Below wA.heap.size wA wx → (wx.cell? ⟨w.heap.size, 0, none⟩ = some (.int .i64 M) ∧ wx.cell? ⟨w.heap.size, 1, none⟩ = some (.slice a n c)) from fun wx hb => ⟨(hb.cell (p := ⟨w.heap.size, 0, none⟩) hzA).trans n0, (hb.cell (p := ⟨w.heap.size, 1, none⟩) hzA).trans n1⟩)
    have LA := hid ((OwnI.lit0 wA).alloc (.cells #[] 3))
    have L2 := hid ((OwnI.lit0 (wA.alloc (.cells #[] 3))).mono (B' := wA.heap.size) (by simp))
    rw [show (wA.alloc (.cells #[] 3)).heap.size = wA.heap.size + 1 by simp] at L2
    have LB := hid (by go_grown : Below wA.heap.size wA ((wA.alloc (.cells #[] 3)).alloc (.cells #[] 3)))
    have hzz : ((wA.alloc (.cells #[] 3)).alloc (.cells #[] 3)).heap.size = wA.heap.size + 2 := by simp
    go_upto_region 2 with fail
    generalize (wA.alloc (.cells #[] 3)).alloc (.cells #[] 3) = wB at *
    clear n0 n1
    obtain ⟨m0, m1⟩ := KA.out _ LB.out
    go_wp2_with fail
    refine (s_l2Good M _ _ _ l _ (H.out.below (bstep BA.out LB.out)) hn).mono ?_
    rintro e w3 ⟨rfl, hb3⟩
    rw [HG.out]
    have S3 := hid (show OwnI w3 w.heap.size (.slice (some ⟨wA.heap.size, 0, none⟩) 0 0) [] ∧ OwnI w3 w.heap.size (.slice (some ⟨wA.heap.size + 1, 0, none⟩) 0 0) [] ∧ Below w.heap.size w w3 from ⟨(LA.out.below hb3).mono BA.out.size, (L2.out.below hb3).mono BA.out.size, bstep BA.out (bstep LB.out hb3)⟩)
    clear m0 m1 hb3
    go_wp2
    refine bodyPost_ret (v := .tuple #[.slice (some ⟨wA.heap.size, 0, none⟩) 0 0, .slice (some ⟨wA.heap.size + 1, 0, none⟩) 0 0, .bool false]) (by simp [results, Try.results26, go_sem]) rfl ?_
    exact ⟨_, _, _, _, rfl, S3.out.1, S3.out.2.1, .inr (by simp [Value.ownBlock]), S3.out.2.2⟩
  · have hN := (goodNet_get h1).1
    obtain ⟨M, rfl⟩ : ∃ M : Nat, N = M := ⟨N.toNat, by omega⟩
    have HG := hid h1
    cases h2 : ringB M l
    · rw [loopR_no (by rw [h1, h2]; rfl)] at hR
      cases hR
      have HR := hid h2
      clear h1 h2 hl hN
      go_enter Try.func26, Try.ntmps26
      go_upto_region 1 with fail
      have BA := hid (by go_grown : Below w.heap.size w (w.alloc (.cells #[.int .i64 M, .slice a n c] 31)))
      have N0 := hid (cell_of_row _ _ 0 _ _ (0, 0) (heap_alloc_new w (.cells #[.int .i64 M, .slice a n c] 31)))
      have N1 := hid (cell_of_row _ _ 1 _ _ (0, 0) (heap_alloc_new w (.cells #[.int .i64 M, .slice a n c] 31)))
      have hzA : w.heap.size < (w.alloc (.cells #[.int .i64 M, .slice a n c] 31)).heap.size := by simp
      have n0 := N0.out
      have n1 := N1.out
      simp only [List.getElem?_toArray, List.getElem?_cons_zero, List.getElem?_cons_succ] at n0 n1
      generalize w.alloc (.cells #[.int .i64 M, .slice a n c] 31) = wA at *
      have KA := hid (show ∀ wx, Below wA.heap.size wA wx → (wx.cell? ⟨w.heap.size, 0, none⟩ = some (.int .i64 M) ∧ wx.cell? ⟨w.heap.size, 1, none⟩ = some (.slice a n c)) from fun wx hb => ⟨(hb.cell (p := ⟨w.heap.size, 0, none⟩) hzA).trans n0, (hb.cell (p := ⟨w.heap.size, 1, none⟩) hzA).trans n1⟩)
      have LA := hid ((OwnI.lit0 wA).alloc (.cells #[] 3))
      have L2 := hid ((OwnI.lit0 (wA.alloc (.cells #[] 3))).mono (B' := wA.heap.size) (by simp))
      rw [show (wA.alloc (.cells #[] 3)).heap.size = wA.heap.size + 1 by simp] at L2
      have LB := hid (by go_grown : Below wA.heap.size wA ((wA.alloc (.cells #[] 3)).alloc (.cells #[] 3)))
      have hzz : ((wA.alloc (.cells #[] 3)).alloc (.cells #[] 3)).heap.size = wA.heap.size + 2 := by simp
      go_upto_region 2 with fail
      generalize (wA.alloc (.cells #[] 3)).alloc (.cells #[] 3) = wB at *
      clear n0 n1
      obtain ⟨m0, m1⟩ := KA.out _ LB.out
      go_wp2_with fail
      refine (s_l2Good M _ _ _ l _ (H.out.below (bstep BA.out LB.out)) hn).mono ?_
      rintro e w3 ⟨rfl, hb3⟩
      rw [HG.out]
      have HB3 := hid hb3
      obtain ⟨k0, k1⟩ := KA.out _ (bstep LB.out hb3)
      have hz3 : w.heap.size < w3.heap.size := World.block_lt_of_cell? w3 _ k0
      clear m0 m1 hb3
      go_wp2_with fail
      refine (s_l10Ring M _ _ _ l _ (H.out.below (bstep BA.out (bstep LB.out HB3.out))) HG.out).mono ?_
      rintro e w4 ⟨rfl, hb4⟩
      rw [HR.out]
      have HB34 := hid (bstep HB3.out hb4)
      clear k0 k1 hb4 hz3
      obtain ⟨m0, m1⟩ := KA.out _ (bstep LB.out HB34.out)
      have S3 := hid (show OwnI w4 w.heap.size (.slice (some ⟨wA.heap.size, 0, none⟩) 0 0) [] ∧ OwnI w4 w.heap.size (.slice (some ⟨wA.heap.size + 1, 0, none⟩) 0 0) [] ∧ Below w.heap.size w w4 from ⟨(LA.out.below HB34.out).mono BA.out.size, (L2.out.below HB34.out).mono BA.out.size, bstep BA.out (bstep LB.out HB34.out)⟩)
      go_wp2
      refine bodyPost_ret (v := .tuple #[.slice (some ⟨wA.heap.size, 0, none⟩) 0 0, .slice (some ⟨wA.heap.size + 1, 0, none⟩) 0 0, .bool false]) (by simp [results, Try.results26, go_sem]) rfl ?_
      exact ⟨_, _, _, _, rfl, S3.out.1, S3.out.2.1, .inr (by simp [Value.ownBlock]), S3.out.2.2⟩
    · have HR := hid h2
      have e0 : loopR M l = (idsL l n, sgnL l n, true) := by
        unfold loopR
        rw [if_pos (by rw [h1, h2]; rfl), hl]
      rw [e0] at hR
      cases hR
      have HLN := hid hl
      have hn10 : n ≤ 10 := by have := (goodNet_get h1).2.1; omega
      clear h1 h2 hl hN e0
      go_enter Try.func26, Try.ntmps26
      go_upto_region 1 with fail
      have BA := hid (by go_grown : Below w.heap.size w (w.alloc (.cells #[.int .i64 M, .slice a n c] 31)))
      have N0 := hid (cell_of_row _ _ 0 _ _ (0, 0) (heap_alloc_new w (.cells #[.int .i64 M, .slice a n c] 31)))
      have N1 := hid (cell_of_row _ _ 1 _ _ (0, 0) (heap_alloc_new w (.cells #[.int .i64 M, .slice a n c] 31)))
      have hzA : w.heap.size < (w.alloc (.cells #[.int .i64 M, .slice a n c] 31)).heap.size := by simp
      have n0 := N0.out
      have n1 := N1.out
      simp only [List.getElem?_toArray, List.getElem?_cons_zero, List.getElem?_cons_succ] at n0 n1
      generalize w.alloc (.cells #[.int .i64 M, .slice a n c] 31) = wA at *
      have KA := hid (show ∀ wx, Below wA.heap.size wA wx → (wx.cell? ⟨w.heap.size, 0, none⟩ = some (.int .i64 M) ∧ wx.cell? ⟨w.heap.size, 1, none⟩ = some (.slice a n c)) from fun wx hb => ⟨(hb.cell (p := ⟨w.heap.size, 0, none⟩) hzA).trans n0, (hb.cell (p := ⟨w.heap.size, 1, none⟩) hzA).trans n1⟩)
      have LA := hid ((OwnI.lit0 wA).alloc (.cells #[] 3))
      have L2 := hid ((OwnI.lit0 (wA.alloc (.cells #[] 3))).mono (B' := wA.heap.size) (by simp))
      rw [show (wA.alloc (.cells #[] 3)).heap.size = wA.heap.size + 1 by simp] at L2
      have LB := hid (by go_grown : Below wA.heap.size wA ((wA.alloc (.cells #[] 3)).alloc (.cells #[] 3)))
      have hzz : ((wA.alloc (.cells #[] 3)).alloc (.cells #[] 3)).heap.size = wA.heap.size + 2 := by simp
      go_upto_region 2 with fail
      generalize (wA.alloc (.cells #[] 3)).alloc (.cells #[] 3) = wB at *
      clear n0 n1
      obtain ⟨m0, m1⟩ := KA.out _ LB.out
      go_wp2_with fail
      refine (s_l2Good M _ _ _ l _ (H.out.below (bstep BA.out LB.out)) hn).mono ?_
      rintro e w3 ⟨rfl, hb3⟩
      rw [HG.out]
      have HB3 := hid hb3
      obtain ⟨k0, k1⟩ := KA.out _ (bstep LB.out hb3)
      have hz3 : w.heap.size < w3.heap.size := World.block_lt_of_cell? w3 _ k0
      clear m0 m1 hb3
      go_wp2_with fail
      refine (s_l10Ring M _ _ _ l _ (H.out.below (bstep BA.out (bstep LB.out HB3.out))) HG.out).mono ?_
      rintro e w4 ⟨rfl, hb4⟩
      rw [HR.out]
      have HB34 := hid (bstep HB3.out hb4)
      clear k0 k1 hb4 hz3
      obtain ⟨m0, m1⟩ := KA.out _ (bstep LB.out HB34.out)
      have HB24 := hid (bstep LB.out HB34.out)
      obtain ⟨k0, k1⟩ := KA.out _ HB24.out
      clear m0 m1
      go_wp2_with fail
      refine (s_l10Loop M _ _ _ l _ (H.out.below (bstep BA.out HB24.out)) HG.out HR.out hc).mono ?_
      rintro e w5 ⟨a3, c3, rfl, ho3, hb3⟩
      have LA4 := hid (LA.out.below HB34.out)
      have L24 := hid (L2.out.below HB34.out)
      have hz4 := HB34.out.size
      have S0 := hid (show LpOf wA w5 l (.slice (some ⟨wA.heap.size, 0, none⟩) 0 0) (.slice (some ⟨wA.heap.size + 1, 0, none⟩) 0 0) (.slice a3 n c3) 0 from
        ⟨LA4.out.below hb3, L24.out.below hb3, ho3.mono HB24.out.size, bstep HB24.out hb3, .inr (by simp [Value.ownBlock]), (ApL.young (LA4.out.below hb3) ho3 (fun k e => by have e2 : some wA.heap.size = some k := e; have := Option.some.inj e2; omega)).symm, (ApL.young (L24.out.below hb3) ho3 (fun k e => by have e2 : some (wA.heap.size + 1) = some k := e; have := Option.some.inj e2; omega)).symm⟩)
      clear ho3 hb3 L2 LA LB hzz LA4 L24 k0 k1 hz4
      go_wp2
      go_loopg [5, 6, 8] n (fun g o u i wr => ∃ (k : Nat) (a1 a2 : Option Addr) (c1 c2 : Nat), k ≤ n ∧ g = n - k ∧ i = .int .i64 k ∧ o = .slice a1 (idsL l k).length c1 ∧ u = .slice a2 (sgnL l k).length c2 ∧ Hid (LpOf wA wr l (.slice a1 (idsL l k).length c1) (.slice a2 (sgnL l k).length c2) (.slice a3 n c3) k))
      case atStart => exact ⟨0, _, _, 0, 0, Nat.zero_le _, rfl, rfl, rfl, rfl, S0⟩
      case round =>
        obtain ⟨k, a1, a2, c1, c2, hk, rfl, rfl, rfl, rfl, hh⟩ := hrel
        clear S0
        obtain ⟨n0, n1⟩ := KA.out _ hh.out.bel
        have hz0 : w.heap.size < wr.heap.size := World.block_lt_of_cell? wr _ n0
        by_cases hlt : k < n
        · obtain ⟨b0, off0, rfl, hbw, x0, x1, x2, x3⟩ := QAt.get (H.out.below (bstep BA.out hh.out.bel)) k hlt
          obtain ⟨g3, rfl, hg31, hg32⟩ := own_some hh.out.o3 (by omega)
          have hcl := hh.out.o3.cell (k := k) hlt
          have hLL : (idsL l k).length ≤ k ∧ (sgnL l k).length ≤ k := by have := idsL_len l k; omega
          by_cases hs : (loopS l)[k]?.getD 0 = 0
          · have E := hid (idsL_no hs)
            rw [hs] at hcl
            go_wp2
            go_roundg (n - (k + 1))
            case rel =>
              refine ⟨k + 1, a1, a2, c1, c2, by omega, rfl, by go_num, by rw [E.out.1], by rw [E.out.2], hid ?_⟩
              rw [E.out.1, E.out.2]
              exact ⟨by rw [E.out.1]; exact hh.out.o1, by rw [E.out.2]; exact hh.out.o2, hh.out.o3, hh.out.bel, hh.out.a12, hh.out.a13, hh.out.a23⟩
            case measure => omega
          · have E := hid (idsL_yes hs)
            obtain ⟨sg, hsg⟩ : ∃ sg, (loopS l)[k]?.getD 0 = sg := ⟨_, rfl⟩
            obtain ⟨pid, hpid⟩ : ∃ pid, (pp l k).1 = pid := ⟨_, rfl⟩
            rw [hsg] at hs hcl
            have hs2 : (sg != 0) = true := by simpa using hs
            have HSG := hid hsg
            rw [hsg, hpid] at E
            rw [hpid] at x0
            clear hsg hpid x1 x2 x3
            go_wp2_with (at_builtin; refine wp_append_ints _ rfl _ _ rfl wA.heap.size _ (idsL l k) rfl (hh.out.o1.alloc _) _ 1 1 [pid] rfl (IntsAt.single _ _) ((idsL l k).length + 1) (by simp) (by omega) (by have := hh.out.bel.size; simp; omega) ?_)
            intro a5 c5 w5 hown hgrow hblk
            have hsz := hgrow.size
            simp only [World.size_alloc] at hsz
            have hgr2 : wr.grownBy w5 (Value.ownBlock (.slice a1 (idsL l k).length c1)) := grownBy_trans (grown_of_below (by go_grown) _) hgrow
            have hnn : ApL (Value.ownBlock (.slice a5 ((idsL l k).length + 1) c5)) (Value.ownBlock (.slice a2 (sgnL l k).length c2)) ∧ ApL (Value.ownBlock (.slice a5 ((idsL l k).length + 1) c5)) (Value.ownBlock (.slice (some ⟨g3, 0, none⟩) n c3)) := ⟨ApL.new hh.out.a12 hblk hh.out.o2 (by simp), ApL.new hh.out.a13 hblk hh.out.o3 (by simp)⟩
            have S5 := hid (show OwnI w5 wA.heap.size (.slice a5 ((idsL l k).length + 1) c5) (idsL l k ++ [pid]) ∧ OwnI w5 wA.heap.size (.slice a2 (sgnL l k).length c2) (sgnL l k) ∧ OwnI w5 wA.heap.size (.slice (some ⟨g3, 0, none⟩) n c3) (loopS l) ∧ Below wA.heap.size wA w5 from
              ⟨hown, hh.out.o2.kept hgr2 hh.out.a12.symm, hh.out.o3.kept hgr2 hh.out.a13.symm, hh.out.bel.grown hgr2 hh.out.bel.size (fun q hq => (hh.out.o1.lt q hq).1)⟩)
            have HNN := hid hnn
            have hcl5 := S5.out.2.2.1.cell (k := k) hlt
            rw [HSG.out] at hcl5
            clear hown hgrow hblk hgr2 hnn hcl n0 n1 x0 hbw
            have hg35 : g3 < w5.heap.size := by omega
            go_wp2_with (at_builtin; refine wp_append_ints _ rfl _ _ rfl wA.heap.size _ (sgnL l k) rfl (S5.out.2.1.alloc _) _ 1 1 [sg] rfl (IntsAt.single _ _) ((sgnL l k).length + 1) (by simp) (by omega) (by have := S5.out.2.2.2.size; simp; omega) ?_)
            intro a6 c6 w6 hown hgrow hblk
            have hgr2 : w5.grownBy w6 (Value.ownBlock (.slice a2 (sgnL l k).length c2)) := grownBy_trans (grown_of_below (by go_grown) _) hgrow
            have hl1 : (idsL l k).length + 1 = (idsL l (k + 1)).length := by rw [E.out.1]; simp
            have hl2 : (sgnL l k).length + 1 = (sgnL l (k + 1)).length := by rw [E.out.2]; simp
            have S6 := hid (show LpOf wA w6 l (.slice a5 ((idsL l k).length + 1) c5) (.slice a6 ((sgnL l k).length + 1) c6) (.slice (some ⟨g3, 0, none⟩) n c3) (k + 1) from
              ⟨by rw [E.out.1]; exact S5.out.1.kept hgr2 HNN.out.1, by rw [E.out.2]; exact hown, S5.out.2.2.1.kept hgr2 hh.out.a23.symm, S5.out.2.2.2.grown hgr2 S5.out.2.2.2.size (fun q hq => (S5.out.2.1.lt q hq).1), (ApL.new HNN.out.1.symm hblk S5.out.1 (by simp)).symm, HNN.out.2, ApL.new hh.out.a23 hblk S5.out.2.2.1 (by simp)⟩)
            rw [hl1, hl2] at S6
            have HL1 := hid hl1
            have HL2 := hid hl2
            clear hown hgrow hblk hgr2 hl1 hl2 hcl5
            go_wp2
            go_roundg (n - (k + 1))
            case rel => exact ⟨k + 1, _, _, _, _, by omega, rfl, by go_num, by rw [HL1.out], by rw [HL2.out], S6⟩
            case measure => omega
        · obtain rfl : n = k := by omega
          go_wp2
          refine bodyPost_ret (v := .tuple #[.slice a1 (idsL l n).length c1, .slice a2 (sgnL l n).length c2, .bool true]) (by simp [results, Try.results26, go_sem]) rfl ?_
          exact ⟨_, _, _, _, rfl, hh.out.o1.mono BA.out.size, hh.out.o2.mono BA.out.size, hh.out.a12, bstep BA.out hh.out.bel⟩

end Go.Proofs.Ythhogblnndmenaa
