/-
  Texts of this claim, joined: NetW, NetI, NetX.
-/
import Derived.Deep.AppendLies
import Derived.Test.YtikjighlnpdgiaaRr1
import Derived.Test.YtikjighlnpdgiaaRr2
/-
  Networks: the search of the program.
-/
set_option linter.unusedVariables false
set_option linter.unusedSimpArgs false
namespace Go.Proofs.Ytikjighlnpdgiaa
open Go.RowKit

theorem i_other (p1 p2 p3 p4 v : Int) (w : World) : Calls Try.prog 83 #[.agg #[.int .i64 p1, .int .i64 p2, .int .i64 p3, .int .i64 p4], .int .i64 v] w fun e w' => e = .returned (.int .i64 (oth (p1, p2, p3, p4) v)) ∧ Below w.heap.size w w' := by
  by_cases h1 : v = p2
  · have E := hid (show p3 = oth (p1, p2, p3, p4) v by simp [oth, h1])
    have ha : v ≤ p2 := by omega
    have hb : p2 ≤ v := by omega
    clear h1
    go_enter Try.func83, Try.ntmps83
    go_wp2
    go_ret
    exact ⟨ret_int E.out, by go_grown⟩
  · by_cases h2 : v = p3
    · have E := hid (show p2 = oth (p1, p2, p3, p4) v by unfold oth; rw [if_neg h1, if_pos h2])
      have ha : v ≤ p3 := by omega
      have hb : p3 ≤ v := by omega
      clear h2
      go_enter Try.func83, Try.ntmps83
      go_wp2
      go_ret
      exact ⟨ret_int E.out, by go_grown⟩
    · have E := hid (show 0 = oth (p1, p2, p3, p4) v by unfold oth; rw [if_neg h1, if_neg h2])
      go_enter Try.func83, Try.ntmps83
      go_wp2
      go_ret
      exact ⟨ret_int E.out, by go_grown⟩

/-- How many nodes have no label yet. -/
def unl (f : List Int) : Nat := f.countP (fun x => decide (x < 0))
theorem unl_set : ∀ (f : List Int) (i : Nat) (y : Int), i < f.length → f[i]?.getD 0 < 0 → 0 ≤ y → unl (f.set i y) + 1 = unl f
  | [], i, y, h, _, _ => by simp at h
  | x :: r, 0, y, h, h1, h2 => by
    simp at h1
    simp [unl, List.countP_cons, h1, show ¬ y < 0 by omega]
  | x :: r, i + 1, y, h, h1, h2 => by
    have ih := unl_set r i y (by simpa using h) (by simpa using h1) h2
    simp only [unl] at ih
    simp only [unl, List.set_cons_succ, List.countP_cons]
    omega
/-- The row of distances. -/
noncomputable def distL (N : Int) (l : List Pip) (wo s : Int) : List Int := (List.range (N.toNat + 1)).map fun v : Nat => if v = 0 then -1 else far l wo s (v : Int)
theorem distL_is {N : Int} {l : List Pip} {wo s : Int} {f : List Int} (hg : goodNet N l = true) (hl : f.length = N.toNat + 1) (h0 : lab f 0 = -1) (hd : IsDist N l wo s (lab f)) : f = distL N l wo s := by
  apply List.ext_getElem?
  intro i
  by_cases hi : i < N.toNat + 1
  · have e : lab f i = if i = 0 then -1 else far l wo s i := by
      by_cases h : i = 0
      · subst h; rw [if_pos rfl]; exact h0
      · rw [if_neg h]; exact hd.unique hg (far_is hg) i (by omega) (by omega)
    unfold lab at e
    rw [Int.toNat_natCast, List.getElem?_eq_getElem (by omega)] at e
    rw [List.getElem?_eq_getElem (by omega)]
    simp only [Option.getD_some] at e
    simp [distL, hi, e]
  · rw [List.getElem?_eq_none (by omega), List.getElem?_eq_none (by simp [distL]; omega)]


/-- What holds in every round of the search. -/
abbrev Srch (w w1 : World) (M n c : Nat) (a : Option Addr) (wr : World) (f q : List Int) (a' : Option Addr) (m c' : Nat) : Prop :=
  OwnI wr w.heap.size (.slice (some ⟨w.heap.size + 1, 0, none⟩) (M + 1) (M + 1)) f ∧ QOwn wr w1.heap.size a' m c' q ∧ Below w.heap.size w wr ∧ wr.cell? ⟨w.heap.size, 0, none⟩ = some (.int .i64 M) ∧ wr.cell? ⟨w.heap.size, 1, none⟩ = some (.slice a n c)
theorem Srch.below {w w1 wr wx : World} {M n c m c' : Nat} {a a' : Option Addr} {f q : List Int} (h : Srch w w1 M n c a wr f q a' m c') (hb : Below wr.heap.size wr wx) : Srch w w1 M n c a wx f q a' m c' :=
  ⟨h.1.below hb, h.2.1.below hb, bstep h.2.2.1 hb, (hb.cell (World.block_lt_of_cell? wr _ h.2.2.2.1)).trans h.2.2.2.1, (hb.cell (World.block_lt_of_cell? wr _ h.2.2.2.2)).trans h.2.2.2.2⟩

set_option maxRecDepth 100000 in
set_option maxHeartbeats 8000000 in
theorem i_distances (M : Nat) (s wo : Int) (a : Option Addr) (n c : Nat) (l : List Pip) (w : World) (h : QAt w a n l) (hg : goodNet M l = true) (hs : 1 ≤ s ∧ s ≤ M) :
    Calls Try.prog 68 #[.agg #[.int .i64 M, .slice a n c], .int .i64 s, .int .i64 wo] w fun e w' => ∃ a' c', e = .returned (.slice a' (M + 1) c') ∧ OwnI w' w.heap.size (.slice a' (M + 1) c') (distL M l wo s) ∧ Below w.heap.size w w' := by
  obtain ⟨i0, hi, hz0, hz1, hz2⟩ := info_parts Try.infoInt
  have hN := (goodNet_get hg).1
  have hl10 := (goodNet_get hg).2.1
  have hM : M ≤ 8 := by omega
  have H := hid h
  have HLN := hid h.1
  have HG := hid hg
  have HI := hid hi
  have HZ := hid hz0
  have HZ1 := hid hz1
  have HZ2 := hid hz2
  have hn : n ≤ 10 := by have := h.1; omega
  clear h hg hi hz0 hz1 hz2 hN hl10
  go_enter Try.func68, Try.ntmps68
  go_wp2_with (at_make; refine wpList_make_full _ rfl _ _ 25 rfl w.heap.size 3 i0 (.int .i64 0) 1 Try.underlying25 HI.out HZ.out HZ1.out _ _ _ _ (M + 1) rfl rfl rfl rfl ?b2 ?b3 ?b4 ?_)
  case b2 => rw [HZ2.out]; omega
  case b3 => unfold maxLen; omega
  case b4 => simp
  intro w1 hown hgrow
  have HO := hid (OwnI.made hown)
  have HB1 := hid (below_of_grown hgrow (Nat.le_refl _) (fun k hk => by simp at hk))
  clear hown hgrow
  have hz1 : w.heap.size + 1 ≤ w1.heap.size := by have := HB1.out.size; simpa using this
  have hz0 : w.heap.size < w1.heap.size := by omega
  have hgo : w.heap.size + 1 < w1.heap.size := (HO.out.lt _ rfl).2
  have R4 := hid (show Below w.heap.size w w1 ∧ w1.cell? ⟨w.heap.size, 0, none⟩ = some (.int .i64 M) ∧ w1.cell? ⟨w.heap.size, 1, none⟩ = some (.slice a n c) from ⟨bstep ((Below.refl _ _).alloc (Nat.le_refl _) _) HB1.out, ((bcell HB1.out).1 _ _ (by simp)).trans (cell_of_row _ _ 0 _ _ (0, 0) (heap_alloc_new _ _)), ((bcell HB1.out).1 _ _ (by simp)).trans (cell_of_row _ _ 1 _ _ (0, 0) (heap_alloc_new _ _))⟩)
  go_wp2
  go_loopg [19] (M + 1) (fun g i wr => ∃ (k : Nat) (L : List Int), k ≤ M + 1 ∧ g = M + 1 - k ∧ i = .int .i64 k ∧ Hid (OwnI wr w.heap.size (.slice (some ⟨w.heap.size + 1, 0, none⟩) (M + 1) (M + 1)) L ∧ L.length = M + 1 ∧ (∀ j, j < k → L[j]?.getD 0 = -1) ∧ w1.grownBy wr (some (w.heap.size + 1))))
  case atStart => exact ⟨0, _, Nat.zero_le _, rfl, rfl, hid ⟨HO.out, by simp, fun j hj => absurd hj (by omega), World.grownBy.refl _ _⟩⟩
  case round =>
    obtain ⟨k, L, hk, rfl, rfl, hh⟩ := hrel
    by_cases hlt : k < M + 1
    · have hcell := hh.out.1.cell (k := k) hlt
      have hfr := hh.out.1.frozen (k := k)
      go_wp2
      go_roundg (M + 1 - (k + 1))
      case rel =>
        have hs2 := hh.out.1.set (k := k) (-1)
        refine ⟨k + 1, L.set k (-1), by omega, rfl, by go_num, hid ⟨hs2.1, by rw [List.length_set]; exact hh.out.2.1, fun j hj => ?_, grownBy_trans hh.out.2.2.2 hs2.2⟩⟩
        have hl9 := hh.out.2.1
        by_cases e : j = k
        · subst e; rw [List.getElem?_set_self (by omega)]; rfl
        · rw [List.getElem?_set_ne (by omega)]; exact hh.out.2.2.1 j (by omega)
      case measure => omega
    · obtain rfl : k = M + 1 := by omega
      have hsn : s.toNat < M + 1 := by omega
      have hcell := hh.out.1.cell (k := s.toNat) hsn
      have hfr := hh.out.1.frozen (k := s.toNat)
      have hs2 := hh.out.1.set (k := s.toNat) 0
      have hall := hh.out.2.2.1
      have hL := hh.out.2.1
      have hlab : ∀ v, 0 ≤ v → v ≤ (M : Int) → lab (L.set s.toNat 0) v = if v = s then 0 else -1 := fun v h1 h2 => by
        rw [lab_set (N := M) (by simpa using hL) (by omega) h1]
        split
        · rfl
        · exact hall v.toNat (by omega)
      have MD := hid (Mid.start (N := M) (l := l) (wo := wo) (s := s) (f := L.set s.toNat 0) hs (by simpa using hL) (fun v h1 h2 h3 => by rw [hlab v h1 h2, if_neg h3]) (by rw [hlab s (by omega) hs.2, if_pos rfl]))
      have GR := hid (grownBy_trans hh.out.2.2.2 hs2.2)
      have OF := hid hs2.1
      clear hs2 hcell
      have hcell := hh.out.1.cell (k := s.toNat) hsn
      have hall2 := hid hall
      have hs0 : 0 ≤ s := by omega
      have hs9 : s < (M : Int) + 1 := by omega
      have SR := hid (show Srch w w1 M n c a ((wr.setCell ⟨w.heap.size + 1, s.toNat, none⟩ (.int .i64 0)).alloc (.cells #[.int .i64 s] 3)) (L.set s.toNat 0) [s] (some ⟨wr.heap.size, 0, none⟩) [s].length 1 from by
        have eh := heap_alloc_new (wr.setCell ⟨w.heap.size + 1, s.toNat, none⟩ (.int .i64 0)) (.cells #[.int .i64 s] 3)
        rw [World.size_setCell] at eh
        have eg : w1.heap.size ≤ wr.heap.size := by have := GR.out.size; simpa using this
        have e0 := (GR.out.cell_far ⟨w.heap.size, 0, none⟩ hz0 (by simp)).trans R4.out.2.1
        have e1 := (GR.out.cell_far ⟨w.heap.size, 1, none⟩ hz0 (by simp)).trans R4.out.2.2
        refine ⟨OF.out.alloc _, ⟨wr.heap.size, 0, #[.int .i64 s], rfl, eg, eh, rfl, Nat.le_refl _, by simp, ?_⟩, (R4.out.1.grown GR.out R4.out.1.size (fun q hq => by simp only [Option.some.injEq] at hq; omega)).alloc (by have := GR.out.size; omega) _, ?_, ?_⟩
        · intro j hj
          obtain rfl : j = 0 := by simp at hj; omega
          simp
        · exact ((bcell ((Below.refl _ _).alloc (Nat.le_refl _) _)).1 _ _ (World.block_lt_of_cell? _ _ e0)).trans e0
        · exact ((bcell ((Below.refl _ _).alloc (Nat.le_refl _) _)).1 _ _ (World.block_lt_of_cell? _ _ e1)).trans e1)
      have hus : unl (L.set s.toNat 0) ≤ M + 1 := by unfold unl; exact Nat.le_trans List.countP_le_length (by simp [hL])
      have LB0 : Hid (∀ v, 1 ≤ v → v ≤ (M : Int) → lab (L.set s.toNat 0) v + (unl (L.set s.toNat 0) : Int) ≤ (M : Int) + 2) := hid (fun v h1 h2 => by rw [hlab v (by omega) h2]; split <;> omega)
      clear hs0 hs9 GR OF hL hh hlab
      go_wp2
      go_loopg [9] (unl (L.set s.toNat 0) + 1) (fun g qv wr => ∃ (f q : List Int) (a' : Option Addr) (c' : Nat), g = unl f + q.length ∧ unl f + q.length ≤ M + 2 ∧ qv = .slice a' q.length c' ∧ Hid (Srch w w1 M n c a wr f q a' q.length c') ∧ Hid ((q = [] ∧ IsDist M l wo s (lab f) ∧ f.length = M + 1 ∧ lab f 0 = -1) ∨ Mid M l wo s f q 0) ∧ Hid (∀ v, 1 ≤ v → v ≤ (M : Int) → lab f v + (unl f : Int) ≤ (M : Int) + 2))
      case atStart => exact ⟨_, [s], _, _, rfl, by simp; omega, rfl, SR, hid (.inr MD.out), LB0⟩
      case round =>
        obtain ⟨f, q, a', c', rfl, hub, rfl, hS, hD, hLB0⟩ := hrel
        rcases hD.out with ⟨rfl, hd1, hd2, hd3⟩ | hm
        · have E := hid (distL_is (N := M) HG.out (by simpa using hd2) hd3 hd1)
          clear hd1 hd2 hd3 hD
          go_wp2
          go_ret
          refine ⟨_, _, rfl, ?_, hS.out.2.2.1⟩
          rw [← E.out]
          exact hS.out.1
        · cases q with
          | nil => exact absurd hm.ne (by simp)
          | cons x q1 =>
            have MM := hid hm
            obtain ⟨-, -, -, n0, n1⟩ := hS.out
            have hzw : w.heap.size < wr.heap.size := World.block_lt_of_cell? wr _ n0
            have hql : 0 < q1.length + 1 := by omega
            clear hm hD
            obtain ⟨W0, hW0⟩ : ∃ W, W = wr := ⟨_, rfl⟩
            subst hW0
            simp only [List.length_cons] at hS ⊢
            go_wp2
            clear n0 n1 hzw
            go_loopg [9, 39] n (fun g qv i wr => ∃ (k : Nat) (f2 q3 : List Int) (a3 : Option Addr) (c3 : Nat), k ≤ n ∧ g = n - k ∧ i = .int .i64 k ∧ qv = .slice a3 (q3.length + 1) c3 ∧ unl f2 + q3.length = unl f + q1.length ∧ Hid (Srch w w1 M n c a wr f2 (x :: q3) a3 (q3.length + 1) c3) ∧ Hid (Mid M l wo s f2 (x :: q3) k) ∧ Hid (∀ v, 1 ≤ v → v ≤ (M : Int) → lab f2 v + (unl f2 : Int) ≤ (M : Int) + 2))
            case atStart => exact ⟨0, f, q1, a', c', Nat.zero_le _, rfl, rfl, rfl, rfl, hid hS.out, MM, hLB0⟩
            case round =>
              obtain ⟨k, f2, q3, a3, c3, hk, rfl, rfl, rfl, hu, hS2, hM2, hLB⟩ := hrel
              have hq3 : q3.length ≤ 1000 := by simp only [List.length_cons] at hub; omega
              by_cases hlt : k < n
              · obtain ⟨b0, off0, rfl, hbw, x0, x1, x2, x3⟩ := QAt.get (H.out.below hS2.out.2.2.1) k hlt
                obtain ⟨gq, oq, rfl, hgq, hq0⟩ := hS2.out.2.1.cell (k := 0) (by omega)
                simp only [Nat.add_zero, List.getElem?_cons_zero, Option.getD_some] at hq0
                have hkl : k < l.length := by have := HLN.out; omega
                go_upto_region 14 with fail
                obtain ⟨X0, -⟩ := bcell (Below.alloc (Below.refl wr.heap.size wr) (Nat.le_refl _) (.cells #[.int .i64 (pp l k).1, .int .i64 (pp l k).2.1, .int .i64 (pp l k).2.2.1, .int .i64 (pp l k).2.2.2] 71))
                have X := hid (show Below wr.heap.size wr (wr.alloc (.cells #[.int .i64 (pp l k).1, .int .i64 (pp l k).2.1, .int .i64 (pp l k).2.2.1, .int .i64 (pp l k).2.2.2] 71)).drew ∧ (wr.alloc (.cells #[.int .i64 (pp l k).1, .int .i64 (pp l k).2.1, .int .i64 (pp l k).2.2.1, .int .i64 (pp l k).2.2.2] 71)).drew.cell? ⟨wr.heap.size, 0, none⟩ = some (.int .i64 (pp l k).1) ∧ (wr.alloc (.cells #[.int .i64 (pp l k).1, .int .i64 (pp l k).2.1, .int .i64 (pp l k).2.2.1, .int .i64 (pp l k).2.2.2] 71)).drew.cell? ⟨wr.heap.size, 1, none⟩ = some (.int .i64 (pp l k).2.1) ∧ (wr.alloc (.cells #[.int .i64 (pp l k).1, .int .i64 (pp l k).2.1, .int .i64 (pp l k).2.2.1, .int .i64 (pp l k).2.2.2] 71)).drew.cell? ⟨wr.heap.size, 2, none⟩ = some (.int .i64 (pp l k).2.2.1) ∧ (wr.alloc (.cells #[.int .i64 (pp l k).1, .int .i64 (pp l k).2.1, .int .i64 (pp l k).2.2.1, .int .i64 (pp l k).2.2.2] 71)).drew.cell? ⟨wr.heap.size, 3, none⟩ = some (.int .i64 (pp l k).2.2.2) ∧ (wr.alloc (.cells #[.int .i64 (pp l k).1, .int .i64 (pp l k).2.1, .int .i64 (pp l k).2.2.1, .int .i64 (pp l k).2.2.2] 71)).drew.cell? ⟨gq, oq, none⟩ = some (.int .i64 x) from ⟨((Below.refl _ _).alloc (Nat.le_refl _) _).drew, cell_of_row _ _ 0 _ _ (0, 0) (heap_alloc_new _ _), cell_of_row _ _ 1 _ _ (0, 0) (heap_alloc_new _ _), cell_of_row _ _ 2 _ _ (0, 0) (heap_alloc_new _ _), cell_of_row _ _ 3 _ _ (0, 0) (heap_alloc_new _ _), (X0 _ _ hgq).trans hq0⟩)
                have KEEP : Hid (∀ wy wz : World, (Below wr.heap.size wr wy ∧ wy.cell? ⟨wr.heap.size, 0, none⟩ = some (.int .i64 (pp l k).1) ∧ wy.cell? ⟨wr.heap.size, 1, none⟩ = some (.int .i64 (pp l k).2.1) ∧ wy.cell? ⟨wr.heap.size, 2, none⟩ = some (.int .i64 (pp l k).2.2.1) ∧ wy.cell? ⟨wr.heap.size, 3, none⟩ = some (.int .i64 (pp l k).2.2.2) ∧ wy.cell? ⟨gq, oq, none⟩ = some (.int .i64 x)) → Below wy.heap.size wy wz → (Below wr.heap.size wr wz ∧ wz.cell? ⟨wr.heap.size, 0, none⟩ = some (.int .i64 (pp l k).1) ∧ wz.cell? ⟨wr.heap.size, 1, none⟩ = some (.int .i64 (pp l k).2.1) ∧ wz.cell? ⟨wr.heap.size, 2, none⟩ = some (.int .i64 (pp l k).2.2.1) ∧ wz.cell? ⟨wr.heap.size, 3, none⟩ = some (.int .i64 (pp l k).2.2.2) ∧ wz.cell? ⟨gq, oq, none⟩ = some (.int .i64 x))) :=
                  hid (fun wy wz ⟨h0, z0, z1, z2, z3, z4⟩ hb => ⟨bstep h0 hb, (hb.cell (World.block_lt_of_cell? wy _ z0)).trans z0, (hb.cell (World.block_lt_of_cell? wy _ z1)).trans z1, (hb.cell (World.block_lt_of_cell? wy _ z2)).trans z2, (hb.cell (World.block_lt_of_cell? wy _ z3)).trans z3, (hb.cell (World.block_lt_of_cell? wy _ z4)).trans z4⟩)
                clear X0 x0 x1 x2 x3 hq0
                refine wp_region_calm (C := (fun w' => Below wr.heap.size wr w' ∧ w'.cell? ⟨wr.heap.size, 0, none⟩ = some (.int .i64 (pp l k).1) ∧ w'.cell? ⟨wr.heap.size, 1, none⟩ = some (.int .i64 (pp l k).2.1) ∧ w'.cell? ⟨wr.heap.size, 2, none⟩ = some (.int .i64 (pp l k).2.2.1) ∧ w'.cell? ⟨wr.heap.size, 3, none⟩ = some (.int .i64 (pp l k).2.2.2) ∧ w'.cell? ⟨gq, oq, none⟩ = some (.int .i64 x))) (by kernel_rfl) (by kernel_rfl) (X.out) ?_
                repeat
                  first
                    | go_big_quiet_skip
                    | (go_big_quiet_want
                       first
                         | (unfold Oper.quiet
                            apply Exists.intro
                            refine ⟨fun wq hq => ?_, ?_⟩
                            · (try dsimp only at hq
                               simp [go_sem, Oper.quietAt, Oper.quietUpon, BigFrame.eval_const, BigFrame.eval_global, BigFrame.eval_func, ↓IntWalk.iteOmega, *]
                               first | done | rfl | (refine calm_call hq KEEP.out (i_other _ _ _ _ _ _) rfl))
                            simp only [Act.put, List.setIfInBounds_toArray, List.set_cons_succ, List.set_cons_zero]
                            go_big_quiet_on))
                refine wpQuiet_nil ?_
                intro wc hcalm
                try dsimp only at hcalm
                have SC := hid (hS2.out.below hcalm.1)
                have HC := hid hcalm
                have hw1c : w1.heap.size ≤ gq := (hS2.out.2.1.lt gq rfl).1
                clear hcalm X KEEP
                have hto : oth ((pp l k).1, (pp l k).2.1, (pp l k).2.2.1, (pp l k).2.2.2) x = oth (pp l k) x := rfl
                rw [hto]
                generalize htv : oth (pp l k) x = tv
                have HT := hid htv
                clear htv hto
                have hx : hd (x :: q3) = x := rfl
                by_cases t1 : 0 < tv
                · have hen := okQ_ends HG.out hkl HT.out t1
                  obtain ⟨⟨e1, e2⟩, ⟨e3, e4⟩, e5, -⟩ := hen
                  obtain ⟨-, c0, -, -, -, cq⟩ := HC.out
                  have z0 := World.block_lt_of_cell? wc _ c0
                  have zq := World.block_lt_of_cell? wc _ cq
                  by_cases t2 : (pp l k).1 = wo
                  · have MN := hid (hM2.out.no (k := k) (fun h => absurd t2 h))
                    have ta : (pp l k).1 ≤ wo := by omega
                    have tb : wo ≤ (pp l k).1 := by omega
                    clear t2
                    go_wp2
                    go_roundg (n - (k + 1))
                    case rel => exact ⟨k + 1, f2, q3, some ⟨gq, oq, none⟩, c3, by omega, rfl, by go_num, rfl, hu, hid SC.out, hid MN.out, hLB⟩
                    case measure => omega
                  · have htn : tv.toNat < M + 1 := by omega
                    have hxn : x.toNat < M + 1 := by omega
                    have hct := SC.out.1.cell (k := tv.toNat) htn
                    have hfr := SC.out.1.frozen (k := tv.toNat)
                    have hcx := SC.out.1.cell (k := x.toNat) hxn
                    have hgoc : w.heap.size + 1 < wc.heap.size := (SC.out.1.lt _ rfl).2
                    have hx0 : 0 ≤ x := by omega
                    have hx1 : x < (M : Int) + 1 := by omega
                    have ht1 : tv < (M : Int) + 1 := by omega
                    have ht0 : 0 ≤ tv := by omega
                    by_cases t3 : f2[tv.toNat]?.getD 0 < 0
                    · have hxl := hM2.out.head
                      rw [hx] at hxl
                      have hlx : 0 ≤ f2[x.toNat]?.getD 0 := hxl.2.2
                      have hb8 : f2[x.toNat]?.getD 0 ≤ 100 := by
                        have := hLB.out x e1 e2
                        simp only [lab] at this
                        omega
                      have hl2 := hM2.out.len
                      have hset := SC.out.1.set (k := tv.toNat) (f2[x.toNat]?.getD 0 + 1)
                      have O9 := hid hset.1
                      have G9 := hid hset.2
                      have U9 := hid (unl_set f2 tv.toNat (f2[x.toNat]?.getD 0 + 1) (by omega) t3 (by omega))
                      have M9 := hid (hM2.out.yes HG.out hkl t2 (by rw [hx]; exact HT.out) t1 t3)
                      clear hset hl2
                      have Q9 := hid (SC.out.2.1.kept G9.out (by simp [Value.ownBlock]; omega))
                      have hgq2 : w.heap.size + 1 < gq := by omega
                      go_wp2_with (at_builtin; refine wp_append_queue _ rfl _ _ rfl w1.heap.size _ (q3.length + 1) c3 (x :: q3) rfl (Q9.out.below (by go_grown)) _ 1 tv rfl ?qc (by omega) ?qb ?_)
                      case qb => first | omega | (simp; omega)
                      intro a9 c9 w9 hq9 hg9 hblk9
                      have gw : w.heap.size ≠ gq := by omega
                      have B9 := hid ((((SC.out.2.2.1.grown G9.out SC.out.2.2.1.size (fun q hq => by simp only [Option.some.injEq] at hq; omega)).alloc (by have := SC.out.2.2.1.size; simp; omega) (.cells #[.int .i64 tv] 3)).grown hg9 (by have := SC.out.2.2.1.size; simp; omega) (fun q hq => by simp [Value.ownBlock] at hq; omega)) : Below w.heap.size w w9)
                      have S9 := hid (show Srch w w1 M n c (some ⟨b0, off0, none⟩) w9 (f2.set tv.toNat (f2[x.toNat]?.getD 0 + 1)) (x :: (q3 ++ [tv])) a9 (q3.length + 1 + 1) c9 from by
                        refine ⟨(O9.out.alloc _).kept hg9 (.inr (by simp [Value.ownBlock]; omega)), hq9, B9.out, ?_, ?_⟩
                        · rw [hg9.cell_far _ (by simp; omega) (by simpa [Value.ownBlock] using gw), (bcell ((Below.refl _ _).alloc (Nat.le_refl _) _)).1 _ _ (by simp; omega), G9.out.cell_far _ (by show w.heap.size < wc.heap.size; omega) (by simp)]
                          exact SC.out.2.2.2.1
                        · rw [hg9.cell_far _ (by simp; omega) (by simpa [Value.ownBlock] using gw), (bcell ((Below.refl _ _).alloc (Nat.le_refl _) _)).1 _ _ (by simp; omega), G9.out.cell_far _ (by show w.heap.size < wc.heap.size; omega) (by simp)]
                          exact SC.out.2.2.2.2)
                      have L9 : Hid (∀ v, 1 ≤ v → v ≤ (M : Int) → lab (f2.set tv.toNat (f2[x.toNat]?.getD 0 + 1)) v + (unl (f2.set tv.toNat (f2[x.toNat]?.getD 0 + 1)) : Int) ≤ (M : Int) + 2) := hid (fun v h1 h2 => by
                        have h3 := hLB.out v h1 h2
                        have h4 := hLB.out x e1 e2
                        have h5 := U9.out
                        simp only [lab] at h4
                        rw [lab_set (N := M) hM2.out.len ⟨by omega, by omega⟩ (by omega)]
                        split <;> omega)
                      have hlen9 : q3.length + 1 + 1 = (q3 ++ [tv]).length + 1 := by simp
                      rw [hlen9] at S9 ⊢
                      have hu9 : unl (f2.set tv.toNat (f2[x.toNat]?.getD 0 + 1)) + (q3 ++ [tv]).length = unl f + q1.length := by have := U9.out; simp; omega
                      clear hq9 hg9 hblk9 hlen9
                      go_wp2
                      go_roundg (n - (k + 1))
                      case rel => exact ⟨k + 1, _, q3 ++ [tv], a9, c9, by omega, rfl, by go_num, rfl, hu9, S9, M9, L9⟩
                      case measure => omega
                    · have MN := hid (hM2.out.no (k := k) (fun _ _ => by rw [hx, HT.out]; show 0 ≤ f2[tv.toNat]?.getD 0; omega))
                      have t3' : 0 ≤ f2[tv.toNat]?.getD 0 := by omega
                      go_wp2
                      go_roundg (n - (k + 1))
                      case rel => exact ⟨k + 1, f2, q3, some ⟨gq, oq, none⟩, c3, by omega, rfl, by go_num, rfl, hu, hid SC.out, hid MN.out, hLB⟩
                      case measure => omega
                · have MN := hid (hM2.out.no (k := k) (fun _ h => absurd (by rw [hx, HT.out] at h; exact h) t1))
                  go_wp2
                  go_roundg (n - (k + 1))
                  case rel => exact ⟨k + 1, f2, q3, some ⟨gq, oq, none⟩, c3, by omega, rfl, by go_num, rfl, hu, hid SC.out, hid MN.out, hLB⟩
                  case measure => omega
              · obtain rfl : k = n := by omega
                obtain ⟨gq, oq, rfl, hgq, hq0⟩ := hS2.out.2.1.cell (k := 0) (by omega)
                have hcap : q3.length + 1 ≤ c3 := by obtain ⟨_, _, _, _, _, _, _, hc, _⟩ := hS2.out.2.1; exact hc
                have MZ := hid (show Mid M l wo s f2 (x :: q3) l.length by rw [HLN.out]; exact hM2.out)
                have SZ := hid (show Srch w w1 M k c a wr f2 q3 (some ⟨gq, oq + 1, none⟩) q3.length (c3 - 1) from ⟨hS2.out.1, hS2.out.2.1.tail, hS2.out.2.2⟩)
                have DZ : Hid ((q3 = [] ∧ IsDist M l wo s (lab f2) ∧ f2.length = M + 1 ∧ lab f2 0 = -1) ∨ Mid M l wo s f2 q3 0) := hid (by
                  cases q3 with
                  | nil => exact .inl ⟨rfl, MZ.out.last HG.out, by simpa using MZ.out.len, MZ.out.zero⟩
                  | cons y r => exact .inr (MZ.out.next HG.out (by simp)))
                have hub2 : unl f2 + q3.length ≤ M + 2 := by simp only [List.length_cons] at hub; omega
                clear hq0
                by_cases hc1 : c3 = 1
                · have hq30 : q3 = [] := List.eq_nil_of_length_eq_zero (by omega)
                  subst hq30
                  have S1 := hid (show Srch w w1 M k c a wr f2 [] (some ⟨gq, oq, none⟩) 0 0 from by
                    obtain ⟨g', o', cur, e, hB, hgg, _, _, hs9, _⟩ := hS2.out.2.1
                    exact ⟨hS2.out.1, ⟨g', o', cur, e, hB, hgg, rfl, Nat.le_refl _, by omega, fun j hj => absurd hj (by omega)⟩, hS2.out.2.2⟩)
                  clear SZ hcap
                  subst hc1
                  go_wp2
                  go_roundg (unl f2 + 0)
                  case rel => exact ⟨f2, [], _, _, rfl, by simpa using hub2, by first | rfl | simp, S1, hid (by simpa using DZ.out), hLB⟩
                  case measure => simp at hu; omega
                · go_wp2
                  go_roundg (unl f2 + q3.length)
                  case rel => exact ⟨f2, q3, _, _, rfl, hub2, by first | rfl | simp, SZ, DZ, hLB⟩
                  case measure => first | omega | (simp only [List.length_cons]; omega)

end Go.Proofs.Ytikjighlnpdgiaa

/-
  Networks: which are valid, in the program.
-/
set_option linter.unusedVariables false
set_option linter.unusedSimpArgs false
namespace Go.Proofs.Ytikjighlnpdgiaa
open Go.RowKit

set_option maxRecDepth 100000 in
set_option maxHeartbeats 8000000 in
theorem i_IsValidNetwork (N : Int) (a : Option Addr) (n c : Nat) (l : List Pip) (w : World) (h : QAt w a n l) (hn : n ≤ 1048576) :
    Calls Try.prog 67 #[.agg #[.int .i64 N, .slice a n c]] w fun e w' => e = .returned (.bool (goodNet N l)) ∧ Below w.heap.size w w' := by
  have hl := h.1
  have H := hid h
  clear h
  cases h1 : inR N 1 8
  · have E := hid (show false = goodNet N l by simp [goodNet, h1])
    have H1 := hid h1
    clear h1 hl
    go_enter Try.func67, Try.ntmps67
    go_wp2_with fail
    refine (i_inside _ _ _ _).mono ?_
    rintro e _ ⟨rfl, rfl⟩
    rw [H1.out]
    go_wp2
    go_ret
    exact ⟨ret_bool E.out, by go_grown⟩
  · by_cases h2 : 10 < n
    · have hx : ¬ l.length ≤ 10 := by omega
      have E := hid (show false = goodNet N l by simp [goodNet, hx])
      have H1 := hid h1
      clear h1 hl hx
      go_enter Try.func67, Try.ntmps67
      go_wp2_with fail
      refine (i_inside _ _ _ _).mono ?_
      rintro e _ ⟨rfl, rfl⟩
      rw [H1.out]
      go_wp2
      go_ret
      exact ⟨ret_bool E.out, by go_grown⟩
    · have H0 := hid h1
      have HL := hid hl
      clear h1 hl
      go_enter Try.func67, Try.ntmps67
      go_wp2_with fail
      refine (i_inside _ _ _ _).mono ?_
      rintro e _ ⟨rfl, rfl⟩
      rw [H0.out]
      go_wp2
      go_loopg [18] n (fun g i wr => ∃ k : Nat, k ≤ n ∧ g = n - k ∧ i = .int .i64 k ∧ Hid (Below w.heap.size w wr ∧ wr.cell? ⟨w.heap.size, 0, none⟩ = some (.int .i64 N) ∧ wr.cell? ⟨w.heap.size, 1, none⟩ = some (.slice a n c)) ∧ Hid (∀ j, j < k → okQ N l j = true))
      case atStart => exact ⟨0, Nat.zero_le _, rfl, rfl, hid ⟨(Below.refl _ _).alloc (Nat.le_refl _) _, cell_of_row _ _ 0 _ _ (0, 0) (heap_alloc_new _ _), cell_of_row _ _ 1 _ _ (0, 0) (heap_alloc_new _ _)⟩, hid (fun j hj => absurd hj (by omega))⟩
      case round =>
        obtain ⟨k, hk, rfl, rfl, hB, hh⟩ := hrel
        by_cases hlt : k < n
        · obtain ⟨b0, off0, rfl, hbw, x0, x1, x2, x3⟩ := QAt.get (H.out.below hB.out.1) k hlt
          obtain ⟨_, _, e1, _, y0, -⟩ := QAt.get (H.out.below hB.out.1) (k - 1) (by omega)
          cases e1
          obtain ⟨-, n0, n1⟩ := hB.out
          have hz0 : w.heap.size < wr.heap.size := World.block_lt_of_cell? wr _ n0
          go_upto_region 6 with fail
          obtain ⟨X0, -⟩ := bcell (Below.alloc (Below.refl wr.heap.size wr) (Nat.le_refl _) (.cells #[.int .i64 (pp l k).1, .int .i64 (pp l k).2.1, .int .i64 (pp l k).2.2.1, .int .i64 (pp l k).2.2.2] 71))
          have X := hid (show NetI w wr N b0 off0 n c k l (wr.alloc (.cells #[.int .i64 (pp l k).1, .int .i64 (pp l k).2.1, .int .i64 (pp l k).2.2.1, .int .i64 (pp l k).2.2.2] 71)).drew from ⟨(hB.out.1.alloc hB.out.1.size _).drew, (X0 _ _ (by omega)).trans n0, (X0 _ _ (by omega)).trans n1, cell_of_row _ _ 0 _ _ (0, 0) (heap_alloc_new _ _), cell_of_row _ _ 1 _ _ (0, 0) (heap_alloc_new _ _), cell_of_row _ _ 2 _ _ (0, 0) (heap_alloc_new _ _), cell_of_row _ _ 3 _ _ (0, 0) (heap_alloc_new _ _), (X0 _ _ (by omega)).trans y0⟩)
          clear X0 x0 x1 x2 x3 y0 n0 n1
          by_cases hok : okQ N l k = true
          · have hq0 := hok
            simp only [okQ, okPipe, Bool.and_eq_true, Bool.or_eq_true, decide_eq_true_eq] at hq0
            obtain ⟨⟨⟨⟨⟨c1, c2⟩, c3⟩, c4⟩, c5⟩, c6⟩ := hq0
            have c4b : ((pp l k).2.1 == (pp l k).2.2.1) = false := by simpa using c4
            have H1 := hid c1
            have H2 := hid c2
            have H3 := hid c3
            have H5 := hid c5
            clear c1 c2 c3 c5
            by_cases hk0 : k = 0
            · have hkp : ¬ 0 < k := by omega
              clear c6 hk0
              refine wp_region_calm (C := (fun w' => Below w.heap.size w w' ∧ w'.cell? ⟨w.heap.size, 0, none⟩ = some (.int .i64 N) ∧ w'.cell? ⟨w.heap.size, 1, none⟩ = some (.slice (some ⟨b0, off0, none⟩) n c) ∧ w'.cell? ⟨wr.heap.size, 0, none⟩ = some (.int .i64 (pp l k).1) ∧ w'.cell? ⟨wr.heap.size, 1, none⟩ = some (.int .i64 (pp l k).2.1) ∧ w'.cell? ⟨wr.heap.size, 2, none⟩ = some (.int .i64 (pp l k).2.2.1) ∧ w'.cell? ⟨wr.heap.size, 3, none⟩ = some (.int .i64 (pp l k).2.2.2) ∧ w'.cell? ⟨b0, off0 + (k - 1) * 4, none⟩ = some (.int .i64 (pp l (k - 1)).1))) (by kernel_rfl) (by kernel_rfl) (X.out) ?_
              repeat
                first
                  | go_big_quiet_skip
                  | (go_big_quiet_want
                     first
                       | (unfold Oper.quiet
                          apply Exists.intro
                          refine ⟨fun wq hq => ?_, ?_⟩
                          · (try dsimp only at hq
                             simp [go_sem, Oper.quietAt, Oper.quietUpon, BigFrame.eval_const, BigFrame.eval_global, BigFrame.eval_func, ↓IntWalk.iteOmega, *]
                             first | done | rfl | (first | (refine calm_same hq (i_inside _ _ _ _) (by first | rw [H1.out] | rw [H5.out])) | (refine calm_call hq (NetI.keep w wr N b0 off0 n c k l) (i_has _ _ _ _ _ _) (by first | rw [H2.out] | rw [H3.out]))))
                          simp only [Act.put, List.setIfInBounds_toArray, List.set_cons_succ, List.set_cons_zero]
                          go_big_quiet_on))
              refine wpQuiet_nil ?_
              intro wc hcalm
              try dsimp only at hcalm
              have HC := hid (⟨hcalm.1, hcalm.2.1, hcalm.2.2.1⟩ : Below w.heap.size w wc ∧ wc.cell? ⟨w.heap.size, 0, none⟩ = some (.int .i64 N) ∧ wc.cell? ⟨w.heap.size, 1, none⟩ = some (.slice (some ⟨b0, off0, none⟩) n c))
              clear hcalm
              go_wp2
              go_roundg (n - (k + 1))
              case rel => exact ⟨k + 1, by omega, rfl, by go_num, HC, hid (all_nextN hh.out hok)⟩
              case measure => omega
            · have hlt6 : (pp l (k - 1)).1 < (pp l k).1 := by rcases c6 with h | h; (exact absurd h hk0); exact h
              have hle6 : ¬ (pp l k).1 ≤ (pp l (k - 1)).1 := by omega
              clear c6
              have hkp : 0 < k := by omega
              have hk1 : k - 1 < n := by omega
              have hw : IntKind.i64.wrap ((k : Int) - 1) = ((k - 1 : Nat) : Int) := (IntWalk.i64_in _ (by omega)).trans (by omega)
              refine wp_region_calm (C := (fun w' => Below w.heap.size w w' ∧ w'.cell? ⟨w.heap.size, 0, none⟩ = some (.int .i64 N) ∧ w'.cell? ⟨w.heap.size, 1, none⟩ = some (.slice (some ⟨b0, off0, none⟩) n c) ∧ w'.cell? ⟨wr.heap.size, 0, none⟩ = some (.int .i64 (pp l k).1) ∧ w'.cell? ⟨wr.heap.size, 1, none⟩ = some (.int .i64 (pp l k).2.1) ∧ w'.cell? ⟨wr.heap.size, 2, none⟩ = some (.int .i64 (pp l k).2.2.1) ∧ w'.cell? ⟨wr.heap.size, 3, none⟩ = some (.int .i64 (pp l k).2.2.2) ∧ w'.cell? ⟨b0, off0 + (k - 1) * 4, none⟩ = some (.int .i64 (pp l (k - 1)).1))) (by kernel_rfl) (by kernel_rfl) (X.out) ?_
              repeat
                first
                  | go_big_quiet_skip
                  | (go_big_quiet_want
                     first
                       | (unfold Oper.quiet
                          apply Exists.intro
                          refine ⟨fun wq hq => ?_, ?_⟩
                          · (try dsimp only at hq
                             simp [go_sem, Oper.quietAt, Oper.quietUpon, BigFrame.eval_const, BigFrame.eval_global, BigFrame.eval_func, ↓IntWalk.iteOmega, *]
                             first | done | rfl | (first | (refine calm_same hq (i_inside _ _ _ _) (by first | rw [H1.out] | rw [H5.out])) | (refine calm_call hq (NetI.keep w wr N b0 off0 n c k l) (i_has _ _ _ _ _ _) (by first | rw [H2.out] | rw [H3.out]))))
                          simp only [Act.put, List.setIfInBounds_toArray, List.set_cons_succ, List.set_cons_zero]
                          go_big_quiet_on))
              refine wpQuiet_nil ?_
              intro wc hcalm
              try dsimp only at hcalm
              have HC := hid (⟨hcalm.1, hcalm.2.1, hcalm.2.2.1⟩ : Below w.heap.size w wc ∧ wc.cell? ⟨w.heap.size, 0, none⟩ = some (.int .i64 N) ∧ wc.cell? ⟨w.heap.size, 1, none⟩ = some (.slice (some ⟨b0, off0, none⟩) n c))
              clear hcalm
              go_wp2
              go_roundg (n - (k + 1))
              case rel => exact ⟨k + 1, by omega, rfl, by go_num, HC, hid (all_nextN hh.out hok)⟩
              case measure => omega
          · have E := hid (goodNet_bad (k := k) (by have := HL.out; omega) (by simpa using hok) : goodNet N l = false).symm
            cases c1 : inR (pp l k).1 1 99
            · have H1 := hid c1
              clear c1 hok
              refine wp_region_calm (C := (fun w' => Below w.heap.size w w' ∧ w'.cell? ⟨w.heap.size, 0, none⟩ = some (.int .i64 N) ∧ w'.cell? ⟨w.heap.size, 1, none⟩ = some (.slice (some ⟨b0, off0, none⟩) n c) ∧ w'.cell? ⟨wr.heap.size, 0, none⟩ = some (.int .i64 (pp l k).1) ∧ w'.cell? ⟨wr.heap.size, 1, none⟩ = some (.int .i64 (pp l k).2.1) ∧ w'.cell? ⟨wr.heap.size, 2, none⟩ = some (.int .i64 (pp l k).2.2.1) ∧ w'.cell? ⟨wr.heap.size, 3, none⟩ = some (.int .i64 (pp l k).2.2.2) ∧ w'.cell? ⟨b0, off0 + (k - 1) * 4, none⟩ = some (.int .i64 (pp l (k - 1)).1))) (by kernel_rfl) (by kernel_rfl) (X.out) ?_
              repeat
                first
                  | go_big_quiet_skip
                  | (go_big_quiet_want
                     first
                       | (unfold Oper.quiet
                          apply Exists.intro
                          refine ⟨fun wq hq => ?_, ?_⟩
                          · (try dsimp only at hq
                             simp [go_sem, Oper.quietAt, Oper.quietUpon, BigFrame.eval_const, BigFrame.eval_global, BigFrame.eval_func, ↓IntWalk.iteOmega, *]
                             first | done | rfl | (first | (refine calm_same hq (i_inside _ _ _ _) (by first | rw [H1.out]))))
                          simp only [Act.put, List.setIfInBounds_toArray, List.set_cons_succ, List.set_cons_zero]
                          go_big_quiet_on))
              refine wpQuiet_nil ?_
              intro wc hcalm
              try dsimp only at hcalm
              have HC := hid (⟨hcalm.1, hcalm.2.1, hcalm.2.2.1⟩ : Below w.heap.size w wc ∧ wc.cell? ⟨w.heap.size, 0, none⟩ = some (.int .i64 N) ∧ wc.cell? ⟨w.heap.size, 1, none⟩ = some (.slice (some ⟨b0, off0, none⟩) n c))
              clear hcalm
              go_wp2
              go_ret
              exact ⟨ret_bool E.out, HC.out.1⟩
            · cases c2 : inR (pp l k).2.1 1 N
              · have H1 := hid c1
                have H2 := hid c2
                clear c1 c2 hok
                refine wp_region_calm (C := (fun w' => Below w.heap.size w w' ∧ w'.cell? ⟨w.heap.size, 0, none⟩ = some (.int .i64 N) ∧ w'.cell? ⟨w.heap.size, 1, none⟩ = some (.slice (some ⟨b0, off0, none⟩) n c) ∧ w'.cell? ⟨wr.heap.size, 0, none⟩ = some (.int .i64 (pp l k).1) ∧ w'.cell? ⟨wr.heap.size, 1, none⟩ = some (.int .i64 (pp l k).2.1) ∧ w'.cell? ⟨wr.heap.size, 2, none⟩ = some (.int .i64 (pp l k).2.2.1) ∧ w'.cell? ⟨wr.heap.size, 3, none⟩ = some (.int .i64 (pp l k).2.2.2) ∧ w'.cell? ⟨b0, off0 + (k - 1) * 4, none⟩ = some (.int .i64 (pp l (k - 1)).1))) (by kernel_rfl) (by kernel_rfl) (X.out) ?_
                repeat
                  first
                    | go_big_quiet_skip
                    | (go_big_quiet_want
                       first
                         | (unfold Oper.quiet
                            apply Exists.intro
                            refine ⟨fun wq hq => ?_, ?_⟩
                            · (try dsimp only at hq
                               simp [go_sem, Oper.quietAt, Oper.quietUpon, BigFrame.eval_const, BigFrame.eval_global, BigFrame.eval_func, ↓IntWalk.iteOmega, *]
                               first | done | rfl | (first | (refine calm_same hq (i_inside _ _ _ _) (by first | rw [H1.out])) | (refine calm_call hq (NetI.keep w wr N b0 off0 n c k l) (i_has _ _ _ _ _ _) (by first | rw [H2.out]))))
                            simp only [Act.put, List.setIfInBounds_toArray, List.set_cons_succ, List.set_cons_zero]
                            go_big_quiet_on))
                refine wpQuiet_nil ?_
                intro wc hcalm
                try dsimp only at hcalm
                have HC := hid (⟨hcalm.1, hcalm.2.1, hcalm.2.2.1⟩ : Below w.heap.size w wc ∧ wc.cell? ⟨w.heap.size, 0, none⟩ = some (.int .i64 N) ∧ wc.cell? ⟨w.heap.size, 1, none⟩ = some (.slice (some ⟨b0, off0, none⟩) n c))
                clear hcalm
                go_wp2
                go_ret
                exact ⟨ret_bool E.out, HC.out.1⟩
              · cases c3 : inR (pp l k).2.2.1 1 N
                · have H1 := hid c1
                  have H2 := hid c2
                  have H3 := hid c3
                  clear c1 c2 c3 hok
                  refine wp_region_calm (C := (fun w' => Below w.heap.size w w' ∧ w'.cell? ⟨w.heap.size, 0, none⟩ = some (.int .i64 N) ∧ w'.cell? ⟨w.heap.size, 1, none⟩ = some (.slice (some ⟨b0, off0, none⟩) n c) ∧ w'.cell? ⟨wr.heap.size, 0, none⟩ = some (.int .i64 (pp l k).1) ∧ w'.cell? ⟨wr.heap.size, 1, none⟩ = some (.int .i64 (pp l k).2.1) ∧ w'.cell? ⟨wr.heap.size, 2, none⟩ = some (.int .i64 (pp l k).2.2.1) ∧ w'.cell? ⟨wr.heap.size, 3, none⟩ = some (.int .i64 (pp l k).2.2.2) ∧ w'.cell? ⟨b0, off0 + (k - 1) * 4, none⟩ = some (.int .i64 (pp l (k - 1)).1))) (by kernel_rfl) (by kernel_rfl) (X.out) ?_
                  repeat
                    first
                      | go_big_quiet_skip
                      | (go_big_quiet_want
                         first
                           | (unfold Oper.quiet
                              apply Exists.intro
                              refine ⟨fun wq hq => ?_, ?_⟩
                              · (try dsimp only at hq
                                 simp [go_sem, Oper.quietAt, Oper.quietUpon, BigFrame.eval_const, BigFrame.eval_global, BigFrame.eval_func, ↓IntWalk.iteOmega, *]
                                 first | done | rfl | (first | (refine calm_same hq (i_inside _ _ _ _) (by first | rw [H1.out])) | (refine calm_call hq (NetI.keep w wr N b0 off0 n c k l) (i_has _ _ _ _ _ _) (by first | rw [H2.out] | rw [H3.out]))))
                              simp only [Act.put, List.setIfInBounds_toArray, List.set_cons_succ, List.set_cons_zero]
                              go_big_quiet_on))
                  refine wpQuiet_nil ?_
                  intro wc hcalm
                  try dsimp only at hcalm
                  have HC := hid (⟨hcalm.1, hcalm.2.1, hcalm.2.2.1⟩ : Below w.heap.size w wc ∧ wc.cell? ⟨w.heap.size, 0, none⟩ = some (.int .i64 N) ∧ wc.cell? ⟨w.heap.size, 1, none⟩ = some (.slice (some ⟨b0, off0, none⟩) n c))
                  clear hcalm
                  go_wp2
                  go_ret
                  exact ⟨ret_bool E.out, HC.out.1⟩
                · by_cases c4 : (pp l k).2.1 = (pp l k).2.2.1
                  · have H1 := hid c1
                    have H2 := hid c2
                    have H3 := hid c3
                    have c4b : ((pp l k).2.1 == (pp l k).2.2.1) = true := by simpa using c4
                    have c4p : ((pp l k).2.1 = (pp l k).2.2.1) = True := eq_true c4
                    clear c1 c2 c3 c4 hok
                    refine wp_region_calm (C := (fun w' => Below w.heap.size w w' ∧ w'.cell? ⟨w.heap.size, 0, none⟩ = some (.int .i64 N) ∧ w'.cell? ⟨w.heap.size, 1, none⟩ = some (.slice (some ⟨b0, off0, none⟩) n c) ∧ w'.cell? ⟨wr.heap.size, 0, none⟩ = some (.int .i64 (pp l k).1) ∧ w'.cell? ⟨wr.heap.size, 1, none⟩ = some (.int .i64 (pp l k).2.1) ∧ w'.cell? ⟨wr.heap.size, 2, none⟩ = some (.int .i64 (pp l k).2.2.1) ∧ w'.cell? ⟨wr.heap.size, 3, none⟩ = some (.int .i64 (pp l k).2.2.2) ∧ w'.cell? ⟨b0, off0 + (k - 1) * 4, none⟩ = some (.int .i64 (pp l (k - 1)).1))) (by kernel_rfl) (by kernel_rfl) (X.out) ?_
                    repeat
                      first
                        | go_big_quiet_skip
                        | (go_big_quiet_want
                           first
                             | (unfold Oper.quiet
                                apply Exists.intro
                                refine ⟨fun wq hq => ?_, ?_⟩
                                · (try dsimp only at hq
                                   simp [go_sem, Oper.quietAt, Oper.quietUpon, BigFrame.eval_const, BigFrame.eval_global, BigFrame.eval_func, ↓IntWalk.iteOmega, *]
                                   first | done | rfl | (first | (refine calm_same hq (i_inside _ _ _ _) (by first | rw [H1.out])) | (refine calm_call hq (NetI.keep w wr N b0 off0 n c k l) (i_has _ _ _ _ _ _) (by first | rw [H2.out] | rw [H3.out]))))
                                simp only [Act.put, List.setIfInBounds_toArray, List.set_cons_succ, List.set_cons_zero]
                                go_big_quiet_on))
                    refine wpQuiet_nil ?_
                    intro wc hcalm
                    try dsimp only at hcalm
                    have HC := hid (⟨hcalm.1, hcalm.2.1, hcalm.2.2.1⟩ : Below w.heap.size w wc ∧ wc.cell? ⟨w.heap.size, 0, none⟩ = some (.int .i64 N) ∧ wc.cell? ⟨w.heap.size, 1, none⟩ = some (.slice (some ⟨b0, off0, none⟩) n c))
                    clear hcalm
                    go_wp2
                    go_ret
                    exact ⟨ret_bool E.out, HC.out.1⟩
                  · have c4b : ((pp l k).2.1 == (pp l k).2.2.1) = false := by simpa using c4
                    cases c5 : inR (pp l k).2.2.2 1 9
                    · have H1 := hid c1
                      have H2 := hid c2
                      have H3 := hid c3
                      have H5 := hid c5
                      clear c1 c2 c3 c5 hok
                      refine wp_region_calm (C := (fun w' => Below w.heap.size w w' ∧ w'.cell? ⟨w.heap.size, 0, none⟩ = some (.int .i64 N) ∧ w'.cell? ⟨w.heap.size, 1, none⟩ = some (.slice (some ⟨b0, off0, none⟩) n c) ∧ w'.cell? ⟨wr.heap.size, 0, none⟩ = some (.int .i64 (pp l k).1) ∧ w'.cell? ⟨wr.heap.size, 1, none⟩ = some (.int .i64 (pp l k).2.1) ∧ w'.cell? ⟨wr.heap.size, 2, none⟩ = some (.int .i64 (pp l k).2.2.1) ∧ w'.cell? ⟨wr.heap.size, 3, none⟩ = some (.int .i64 (pp l k).2.2.2) ∧ w'.cell? ⟨b0, off0 + (k - 1) * 4, none⟩ = some (.int .i64 (pp l (k - 1)).1))) (by kernel_rfl) (by kernel_rfl) (X.out) ?_
                      repeat
                        first
                          | go_big_quiet_skip
                          | (go_big_quiet_want
                             first
                               | (unfold Oper.quiet
                                  apply Exists.intro
                                  refine ⟨fun wq hq => ?_, ?_⟩
                                  · (try dsimp only at hq
                                     simp [go_sem, Oper.quietAt, Oper.quietUpon, BigFrame.eval_const, BigFrame.eval_global, BigFrame.eval_func, ↓IntWalk.iteOmega, *]
                                     first | done | rfl | (first | (refine calm_same hq (i_inside _ _ _ _) (by first | rw [H1.out] | rw [H5.out])) | (refine calm_call hq (NetI.keep w wr N b0 off0 n c k l) (i_has _ _ _ _ _ _) (by first | rw [H2.out] | rw [H3.out]))))
                                  simp only [Act.put, List.setIfInBounds_toArray, List.set_cons_succ, List.set_cons_zero]
                                  go_big_quiet_on))
                      refine wpQuiet_nil ?_
                      intro wc hcalm
                      try dsimp only at hcalm
                      have HC := hid (⟨hcalm.1, hcalm.2.1, hcalm.2.2.1⟩ : Below w.heap.size w wc ∧ wc.cell? ⟨w.heap.size, 0, none⟩ = some (.int .i64 N) ∧ wc.cell? ⟨w.heap.size, 1, none⟩ = some (.slice (some ⟨b0, off0, none⟩) n c))
                      clear hcalm
                      go_wp2
                      go_ret
                      exact ⟨ret_bool E.out, HC.out.1⟩
                    · have hq0 : ¬ (k = 0 ∨ (pp l (k - 1)).1 < (pp l k).1) := fun h => hok (by simp only [okQ, okPipe, Bool.and_eq_true, Bool.or_eq_true, decide_eq_true_eq]; exact ⟨⟨⟨⟨⟨c1, c2⟩, c3⟩, c4⟩, c5⟩, h⟩)
                      have hle6 : (pp l k).1 ≤ (pp l (k - 1)).1 := by omega
                      have H1 := hid c1
                      have H2 := hid c2
                      have H3 := hid c3
                      have H5 := hid c5
                      clear c1 c2 c3 c5 hok
                      have hkp : 0 < k := by omega
                      have hk1 : k - 1 < n := by omega
                      clear hq0
                      have hw : IntKind.i64.wrap ((k : Int) - 1) = ((k - 1 : Nat) : Int) := (IntWalk.i64_in _ (by omega)).trans (by omega)
                      refine wp_region_calm (C := (fun w' => Below w.heap.size w w' ∧ w'.cell? ⟨w.heap.size, 0, none⟩ = some (.int .i64 N) ∧ w'.cell? ⟨w.heap.size, 1, none⟩ = some (.slice (some ⟨b0, off0, none⟩) n c) ∧ w'.cell? ⟨wr.heap.size, 0, none⟩ = some (.int .i64 (pp l k).1) ∧ w'.cell? ⟨wr.heap.size, 1, none⟩ = some (.int .i64 (pp l k).2.1) ∧ w'.cell? ⟨wr.heap.size, 2, none⟩ = some (.int .i64 (pp l k).2.2.1) ∧ w'.cell? ⟨wr.heap.size, 3, none⟩ = some (.int .i64 (pp l k).2.2.2) ∧ w'.cell? ⟨b0, off0 + (k - 1) * 4, none⟩ = some (.int .i64 (pp l (k - 1)).1))) (by kernel_rfl) (by kernel_rfl) (X.out) ?_
                      repeat
                        first
                          | go_big_quiet_skip
                          | (go_big_quiet_want
                             first
                               | (unfold Oper.quiet
                                  apply Exists.intro
                                  refine ⟨fun wq hq => ?_, ?_⟩
                                  · (try dsimp only at hq
                                     simp [go_sem, Oper.quietAt, Oper.quietUpon, BigFrame.eval_const, BigFrame.eval_global, BigFrame.eval_func, ↓IntWalk.iteOmega, *]
                                     first | done | rfl | (first | (refine calm_same hq (i_inside _ _ _ _) (by first | rw [H1.out] | rw [H5.out])) | (refine calm_call hq (NetI.keep w wr N b0 off0 n c k l) (i_has _ _ _ _ _ _) (by first | rw [H2.out] | rw [H3.out]))))
                                  simp only [Act.put, List.setIfInBounds_toArray, List.set_cons_succ, List.set_cons_zero]
                                  go_big_quiet_on))
                      refine wpQuiet_nil ?_
                      intro wc hcalm
                      try dsimp only at hcalm
                      have HC := hid (⟨hcalm.1, hcalm.2.1, hcalm.2.2.1⟩ : Below w.heap.size w wc ∧ wc.cell? ⟨w.heap.size, 0, none⟩ = some (.int .i64 N) ∧ wc.cell? ⟨w.heap.size, 1, none⟩ = some (.slice (some ⟨b0, off0, none⟩) n c))
                      clear hcalm
                      go_wp2
                      go_ret
                      exact ⟨ret_bool E.out, HC.out.1⟩
        · obtain rfl : k = n := by omega
          have E := hid (goodNet_all H0.out (by have := HL.out; omega) (fun j hj => hh.out j (by have := HL.out; omega)) : goodNet N l = true).symm
          go_wp2
          go_ret
          exact ⟨ret_bool (by first | exact E.out | (rw [← E.out]; simp; omega)), hB.out.1⟩

end Go.Proofs.Ytikjighlnpdgiaa

/-
  Networks: the nodes that are reached.
-/
set_option linter.unusedVariables false
set_option linter.unusedSimpArgs false
namespace Go.Proofs.Ytikjighlnpdgiaa
open Go.RowKit

theorem s_l1Has (a : Option Addr) (n c : Nat) (x : Int) (l : List Int) (w : World) (h : IntsAt w a n l) (hn : n ≤ 1048576) :
    Calls Try.prog 75 #[.slice a n c, .int .i64 x] w fun e w' => e = .returned (.bool (decide (x ∈ l))) ∧ w = w' := by
  have H := hid h
  have HL := hid h.1
  clear h
  go_enter Try.func75, Try.ntmps75
  go_wp2
  go_loopg [5] n (fun g i wr => ∃ k : Nat, k ≤ n ∧ g = n - k ∧ i = .int .i64 k ∧ w = wr ∧ Hid (∀ j, j < k → l[j]?.getD 0 ≠ x))
  case atStart => exact ⟨0, Nat.zero_le _, rfl, rfl, rfl, hid (fun j hj => absurd hj (by omega))⟩
  case round =>
    obtain ⟨k, hk, rfl, rfl, rfl, hh⟩ := hrel
    by_cases hlt : k < n
    · obtain ⟨b, off, rfl, hbw, hcell⟩ := H.out.2 k hlt
      by_cases he : l[k]?.getD 0 = x
      · have E := hid (show true = decide (x ∈ l) by
          have : x ∈ l := he ▸ getD_mem' (k := k) (by have := HL.out; omega)
          simp [this])
        have ha : l[k]?.getD 0 ≤ x := by omega
        have hb : x ≤ l[k]?.getD 0 := by omega
        clear he
        go_wp2
        go_ret
        exact ⟨ret_bool E.out, rfl⟩
      · go_wp2
        go_roundg (n - (k + 1))
        case rel =>
          refine ⟨k + 1, by omega, rfl, by go_num, rfl, hid (fun j hj => ?_)⟩
          by_cases e : j = k
          · subst e; exact he
          · exact hh.out j (by omega)
        case measure => omega
    · obtain rfl : n = k := by omega
      have E := hid (show false = decide (x ∈ l) by
        have : x ∉ l := fun hm => by
          obtain ⟨j, hj, rfl⟩ := List.mem_iff_getElem.1 hm
          exact hh.out j (by have := HL.out; omega) (by simp [hj])
        simp [this])
      go_wp2
      go_ret
      exact ⟨ret_bool E.out, rfl⟩

/-- The first indices at which a row is not negative. -/
def nonneg (L : List Int) (k : Nat) : List Int := ((List.range k).filter fun v => decide (0 ≤ L[v]?.getD 0)).map fun v : Nat => (v : Int)
theorem nonneg_yes {L : List Int} {k : Nat} (h : 0 ≤ L[k]?.getD 0) : nonneg L (k + 1) = nonneg L k ++ [(k : Int)] := by simp [nonneg, List.range_succ, h]
theorem nonneg_no {L : List Int} {k : Nat} (h : ¬ 0 ≤ L[k]?.getD 0) : nonneg L (k + 1) = nonneg L k := by simp [nonneg, List.range_succ, h]
theorem nonneg_len (L : List Int) (k : Nat) : (nonneg L k).length ≤ k := by
  unfold nonneg
  rw [List.length_map]
  exact Nat.le_trans (List.length_filter_le _ _) (by simp)


theorem own_some {w : World} {B n c : Nat} {a : Option Addr} {l : List Int} (h : OwnI w B (.slice a n c) l) (hn : 0 < n) : ∃ g, a = some ⟨g, 0, none⟩ ∧ B ≤ g ∧ g < w.heap.size := by
  have hlt := h.lt
  have hl := h.len
  unfold OwnI at h
  rcases h.2 with ⟨h1, h0⟩ | ⟨g, cap, cur, h1, hB, hg, hnc, hm, hs, ht⟩
  · simp only [Value.slice.injEq] at h1
    omega
  · simp only [Value.slice.injEq] at h1
    obtain ⟨rfl, -, rfl⟩ := h1
    exact ⟨g, rfl, hlt g rfl⟩

set_option maxRecDepth 100000 in
set_option maxHeartbeats 2000000 in
theorem i_reachedFrom (M : Nat) (s : Int) (a : Option Addr) (n c : Nat) (l : List Pip) (w : World) (h : QAt w a n l) (hg : goodNet M l = true) (hs : 1 ≤ s ∧ s ≤ M) :
    Calls Try.prog 106 #[.agg #[.int .i64 M, .slice a n c], .int .i64 s] w fun e w' => ∃ a' c', e = .returned (.slice a' (nonneg (distL M l 0 s) (M + 1)).length c') ∧ OwnI w' w.heap.size (.slice a' (nonneg (distL M l 0 s) (M + 1)).length c') (nonneg (distL M l 0 s) (M + 1)) ∧ Below w.heap.size w w' := by
  have hM : M ≤ 8 := by have := (goodNet_get hg).1; omega
  have H := hid h
  have HG := hid hg
  clear h hg
  obtain ⟨D, hD⟩ : ∃ D, distL M l 0 s = D := ⟨_, rfl⟩
  rw [hD]
  have HDD := hid hD
  clear hD
  go_enter Try.func106, Try.ntmps106
  go_wp2_with fail
  refine (i_distances M s 0 _ _ _ l _ (H.out.below (by go_grown)) HG.out hs).mono ?_
  rintro e w1 ⟨ad, cd, rfl, hod, hb1⟩
  obtain ⟨gd, rfl, hgd1, hgd2⟩ := own_some hod (by omega)
  simp only [World.size_alloc] at hgd1 hod
  rw [HDD.out] at hod
  have HD := hid hod
  have HB1 := hid (bstep (by go_grown) hb1 : Below w.heap.size w w1)
  have HO := hid (show OwnI w1 w.heap.size (.slice (some ⟨w.heap.size + 1, 0, none⟩) (nonneg D 0).length 0) (nonneg D 0) from by
    have := ((OwnI.lit0 (w.alloc (.cells #[.int .i64 M, .slice a n c] 31))).below hb1).mono (B' := w.heap.size) (by simp)
    simpa [nonneg] using this)
  clear hod hb1
  go_wp2
  go_loopg [5, 13] (M + 1) (fun g o i wr => ∃ (k : Nat) (a' : Option Addr) (c' : Nat), k ≤ M + 1 ∧ g = M + 1 - k ∧ i = .int .i64 k ∧ o = .slice a' (nonneg D k).length c' ∧ Hid (OwnI wr w.heap.size (.slice a' (nonneg D k).length c') (nonneg D k) ∧ OwnI wr w.heap.size (.slice (some ⟨gd, 0, none⟩) (M + 1) cd) D ∧ Below w.heap.size w wr ∧ Value.ownBlock (.slice a' (nonneg D k).length c') ≠ some gd))
  case atStart =>
    refine ⟨0, some ⟨w.heap.size + 1, 0, none⟩, 0, Nat.zero_le _, rfl, rfl, rfl, hid ⟨HO.out, HD.out.mono (by omega), HB1.out, ?_⟩⟩
    simp [Value.ownBlock]
    omega
  case round =>
    obtain ⟨k, a', c', hk, rfl, rfl, rfl, hh⟩ := hrel
    have hlen := nonneg_len D k
    by_cases hlt : k < M + 1
    · have hcell := hh.out.2.1.cell (k := k) hlt
      have hgw : gd < wr.heap.size := (hh.out.2.1.lt _ rfl).2
      by_cases hp : 0 ≤ D[k]?.getD 0
      · have E := hid (nonneg_yes hp)
        go_wp2_with (at_builtin; refine wp_append_ints _ rfl _ _ rfl w.heap.size _ (nonneg D k) rfl (hh.out.1.alloc _) _ 1 1 [(k : Int)] rfl (IntsAt.single _ _) ((nonneg D k).length + 1) (by simp) (by omega) (by have := hh.out.2.2.1.size; simp; omega) ?_)
        intro a2 c2 w2 hown hgrow hblk
        have hl2 : (nonneg D k).length + 1 = (nonneg D (k + 1)).length := by rw [E.out]; simp
        rw [hl2] at hown hblk ⊢
        have S2 := hid (show OwnI w2 w.heap.size (.slice a2 (nonneg D (k + 1)).length c2) (nonneg D (k + 1)) ∧ OwnI w2 w.heap.size (.slice (some ⟨gd, 0, none⟩) (M + 1) cd) D ∧ Below w.heap.size w w2 ∧ Value.ownBlock (.slice a2 (nonneg D (k + 1)).length c2) ≠ some gd from by
          refine ⟨by rw [E.out] at hown ⊢; exact hown, (hh.out.2.1.alloc _).kept hgrow (.inr (fun e => hh.out.2.2.2 (by rw [← e]; rfl))), (bstep hh.out.2.2.1 (by go_grown)).grown hgrow (by have := hh.out.2.2.1.size; simp; omega) (fun q hq => (hh.out.1.lt q hq).1), ?_⟩
          rcases hblk with e | e
          · rw [e]; exact hh.out.2.2.2
          · rw [e]; simp; omega)
        clear hown hgrow hblk hl2
        go_wp2
        go_roundg (M + 1 - (k + 1))
        case rel => exact ⟨k + 1, _, _, by omega, rfl, by go_num, rfl, S2⟩
        case measure => omega
      · have E := hid (nonneg_no hp)
        go_wp2
        go_roundg (M + 1 - (k + 1))
        case rel => exact ⟨k + 1, a', c', by omega, rfl, by go_num, by rw [E.out], hid (by rw [E.out]; exact hh.out)⟩
        case measure => omega
    · obtain rfl : k = M + 1 := by omega
      go_wp2
      go_ret
      exact ⟨_, _, rfl, hh.out.1, hh.out.2.2.1⟩

end Go.Proofs.Ytikjighlnpdgiaa

