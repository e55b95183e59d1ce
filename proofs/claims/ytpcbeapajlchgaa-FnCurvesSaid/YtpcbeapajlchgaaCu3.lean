/-
  Texts of this claim, joined: CurC, Lift, LiftG, DrawC, TakeH, Marks, LiftS, LiftCurve, LawCRaiseCurve, DrawD.
-/
import Derived.Test.YtpcbeapajlchgaaRows
import Derived.ProofKit
import Derived.OpenShut
import Derived.Carry
import Derived.Lib.SmallJoins
import Derived.Test.YtpcbeapajlchgaaCu1
import Derived.Test.YtpcbeapajlchgaaCu2
/-
  The draw of a curve.
-/
set_option linter.unusedVariables false
set_option linter.unusedSimpArgs false
namespace Go.Proofs.Ytpcbeapajlchgaa
open Go.RowKit

theorem SAt.kept {α : Type} [Inhabited α] {f : α → List Value} {s n : Nat} {w w' : World} {a : Option Addr} {l : List α} {row : Option Nat} (h : SAt f s w a n l) (hg : w.grownBy w' row) (hne : ∀ b o, a = some ⟨b, o, none⟩ → some b ≠ row) : SAt f s w' a n l :=
  ⟨h.1, fun k hk => by
    obtain ⟨b, o, h1, h2, h3⟩ := h.2 k hk
    refine ⟨b, o, h1, Nat.lt_of_lt_of_le h2 hg.size, fun j hj => ?_⟩
    rw [← h3 j hj]
    unfold World.cell?
    rw [hg.block b h2 (hne b o h1)]⟩
theorem SAt.take {α : Type} [Inhabited α] {f : α → List Value} {s n k : Nat} {w : World} {a : Option Addr} {l : List α} (h : SAt f s w a n l) (hk : k ≤ n) : SAt f s w a k (l.take k) :=
  ⟨by rw [List.length_take, h.1]; omega, fun j hj => by
    obtain ⟨b, o, h1, h2, h3⟩ := h.2 j (by omega)
    refine ⟨b, o, h1, h2, fun q hq => ?_⟩
    rw [h3 q hq, List.getElem?_take_of_lt hj]⟩
theorem p_cap {w : World} {B n c : Nat} {a : Option Addr} {l : List Pt} (h : OwnP w B (.slice a n c) l) : n ≤ c := by
  have hl := OwnS.len h
  rcases (show w.ownsRow _ _ _ _ _ _ from h).2 with ⟨h1, h0⟩ | ⟨g, cap, cur, h1, hB, hg, hnc, -⟩
  · simp only [Value.slice.injEq] at h1
    omega
  · simp only [Value.slice.injEq] at h1
    omega
theorem ownP_ne {w : World} {B g : Nat} {v : Value} {l : List Pt} (h : OwnP w B v l) (hg : g < B) : v.ownBlock = none ∨ v.ownBlock ≠ some g := by
  cases e : v.ownBlock with
  | none => exact .inl rfl
  | some k => exact .inr (fun e2 => by have h1 := (OwnS.lt h k e).1; have := Option.some.inj e2; omega)

/-- A curve in the making, and the cursor. -/
structure CB (w W : World) (g K : Nat) (a : Option Addr) (n c : Nat) (L : List Pt) : Prop where
  cur : Cur W g K
  gro : w.grownBy W (some g)
  own : OwnP W w.heap.size (.slice a n c) L
  gb : g < w.heap.size
section
variable {w W W' : World} {g K : Nat} {a : Option Addr} {n c : Nat} {L : List Pt}
theorem CB.step {K' : Nat} (h : CB w W g K a n c L) (hc : Cur W' g K') (hg : W.grownBy W' (some g)) : CB w W' g K' a n c L := ⟨hc, grownBy_trans h.gro hg, OwnS.kept h.own hg (ownP_ne h.own h.gb), h.gb⟩
theorem CB.below (h : CB w W g K a n c L) (hb : Below W.heap.size W W') : CB w W' g K a n c L := h.step (h.cur.below hb) (grown_of_below hb _)
theorem CB.le {K' : Nat} (h : CB w W g K a n c L) (hk : K ≤ K') : CB w W g K' a n c L := ⟨h.cur.le hk, h.gro, h.own, h.gb⟩
theorem CB.put {a' : Option Addr} {n' c' : Nat} {L' : List Pt} (h : CB w W g K a n c L) (hg : W.grownBy W' (Value.ownBlock (.slice a n c))) (ho : OwnP W' w.heap.size (.slice a' n' c') L') : CB w W' g K a' n' c' L' :=
  ⟨h.cur.kept hg (fun k e => by have := (OwnS.lt h.own k e).1; have := h.gb; omega), grown_step h.gro hg (fun k e => .inl (OwnS.lt h.own k e).1), ho, h.gb⟩
theorem CB.other {p j : Nat} {u : Value} (h : CB w W g K a n c L) (hp : w.heap.size ≤ p) (hr : ∀ k, Value.ownBlock (.slice a n c) = some k → k ≠ p) : CB w (W.setCell ⟨p, j, none⟩ u) g K a n c L := by
  refine ⟨h.cur.set (by have := h.gb; omega), grown_set h.gro hp, OwnS.kept h.own (grown_setCell W p j u) ?_, h.gb⟩
  cases e : Value.ownBlock (.slice a n c) with
  | none => exact .inl rfl
  | some k => exact .inr (fun e2 => hr k e (Option.some.inj e2))
theorem CB.new (h : CB w W g K a n c L) {b o : Nat} (e : a = some ⟨b, o, none⟩) : w.heap.size ≤ b := by
  subst e
  exact (OwnS.lt h.own b rfl).1
end

set_option maxRecDepth 100000 in
set_option maxHeartbeats 8000000 in
theorem c_curve (g K : Nat) (w : World) (h : Cur w g K) (hK : K ≤ 100000000) :
    Calls Try.prog 75 #[.pointer (some ⟨g, 0, none⟩)] w fun e w' => (∃ (a : Option Addr) (n c : Nat), e = .returned (.slice a n c) ∧ (1 ≤ n ∧ n ≤ 7) ∧ ∃ L : List Pt, PAt w' a n L ∧ ∀ b o, a = some ⟨b, o, none⟩ → w.heap.size ≤ b) ∧ Cur w' g (K + 100) ∧ w.grownBy w' (some g) := by
  obtain ⟨i0, hi, hz0, hz1, hz2⟩ := info_parts Try.infoCurvePoint
  have HI := hid hi
  have HZ := hid hz0
  have HZ1 := hid hz1
  have HZ2 := hid hz2
  clear hi hz0 hz1 hz2
  have H := hid h
  have hgz := h.lt
  clear h
  go_enter Try.func75, Try.ntmps75
  go_upto_region 2 with fail
  have S0 := hid (show CB w (w.alloc (.cells #[] 52)) g K (some ⟨w.heap.size, 0, none⟩) 0 0 [] from ⟨H.out.below (by go_grown), grown_of_below (by go_grown) _, OwnS.lit0 w, hgz⟩)
  generalize w.alloc (.cells #[] 52) = w0 at *
  go_wp2_with fail
  refine (c_among g _ w0.heap.size 3 3 [50, 100, 1000] _ (S0.out.cur.below (by go_grown)) (by omega) (IntsAt.lit' _ 3 [50, 100, 1000] rfl rfl) (by have := S0.out.cur.lt; omega) (by omega) (by omega)).mono ?_
  rintro e w1 ⟨⟨u, rfl, hu⟩, hc1, hg1⟩
  have S1 := hid ((S0.out.below (by go_grown)).step hc1 hg1)
  clear hc1 hg1 hu S0
  go_wp2_with fail
  refine (c_pick g _ 4 _ S1.out.cur (by omega) (by omega)).mono ?_
  rintro e w2 ⟨⟨v, rfl, hv0, hv1⟩, hc2, hg2⟩
  have S2 := hid (S1.out.step hc2 hg2)
  clear hc2 hg2 S1
  obtain ⟨T, hT⟩ : ∃ T : Nat, 2 + v = T := ⟨(2 + v).toNat, by omega⟩
  have hT1 : 2 ≤ T ∧ T ≤ 5 := by omega
  have hwT : IntKind.i64.wrap (2 + v) = (T : Int) := by rw [IntWalk.i64_in _ (by omega)]; exact hT
  clear hv0 hv1 hT
  go_wp2
  go_loopg [3, 4, 5, 6] T (fun gm o x y i wr => ∃ (k : Nat) (a' : Option Addr) (c' : Nat) (L : List Pt) (p q : Int), k ≤ T ∧ gm = T - k ∧ o = .slice a' k c' ∧ x = .int .i64 p ∧ y = .int .i64 q ∧ i = .int .i64 ((T : Int) - (k : Int)) ∧ Hid (CB w wr g (K + 4 + 4 * k) a' k c' L))
  case atStart => exact ⟨0, _, 0, [], 0, u, Nat.zero_le _, rfl, rfl, rfl, rfl, by simp, hid (S2.out.le (by omega))⟩
  case round =>
    obtain ⟨k, a', c', L, p, q, hk, rfl, rfl, rfl, rfl, rfl, hh⟩ := hrel
    clear S2
    have hgz2 := hh.out.gb
    by_cases hlt : k < T
    · have hlti : (0 : Int) < (T : Int) - (k : Int) := by omega
      have hll := OwnS.len hh.out.own
      have hsz := hh.out.gro.size
      have hwk : IntKind.i64.wrap ((T : Int) - (k : Int) - 1) = (T : Int) - ((k + 1 : Nat) : Int) := by rw [IntWalk.i64_in _ (by omega)]; omega
      go_wp2_with (at_builtin; refine wp_append_s _ rfl _ _ 25 rfl 52 i0 (.agg #[.int .i64 0, .int .i64 0]) 16 Try.underlying25 HI.out HZ.out HZ1.out HZ2.out rfl (by decide) pf_len pf_one w.heap.size _ L rfl (OwnS.alloc hh.out.own _) _ 1 1 [(p, q)] rfl (SAt.single (e := 52) _ (p, q) pf_len) (k + 1) (by omega) (by omega) (by omega) (by simp; omega) ?_)
      intro a2 c2 w5 hown hgrow hblk
      have S5 := hid (hh.out.put (grownBy_trans (grown_of_below (by go_grown) _) hgrow) hown)
      clear hown hgrow hblk hh hll
      go_wp2_with fail
      refine (c_among g _ w5.heap.size 4 4 [1, 5, 10, 30] _ (S5.out.cur.below (by go_grown)) (by omega) (IntsAt.lit' _ 3 [1, 5, 10, 30] rfl rfl) (by have := S5.out.cur.lt; omega) (by omega) (by omega)).mono ?_
      rintro e w6 ⟨⟨v1, rfl, hv1⟩, hc6, hg6⟩
      have S6 := hid ((S5.out.below (by go_grown)).step hc6 hg6)
      clear hc6 hg6 hv1 S5
      go_wp2_with fail
      refine (c_among g _ w6.heap.size 3 3 [1, 3, 7] _ (S6.out.cur.below (by go_grown)) (by omega) (IntsAt.lit' _ 3 [1, 3, 7] rfl rfl) (by have := S6.out.cur.lt; omega) (by omega) (by omega)).mono ?_
      rintro e w7 ⟨⟨v2, rfl, hv2⟩, hc7, hg7⟩
      have S7 := hid ((S6.out.below (by go_grown)).step hc7 hg7)
      clear hc7 hg7 hv2 S6
      go_wp2
      go_roundg (T - (k + 1))
      case rel => exact ⟨k + 1, _, _, _, _, _, by omega, rfl, rfl, rfl, rfl, rfl, hid (S7.out.le (by omega))⟩
      case measure => omega
    · have hlti : ¬ (0 : Int) < (T : Int) - (k : Int) := by omega
      obtain rfl : T = k := by omega
      go_wp2_with fail
      refine (c_pick g _ T _ hh.out.cur (by omega) (by omega)).mono ?_
      rintro e w5 ⟨⟨v, rfl, v0, v1⟩, hc5, hg5⟩
      obtain ⟨i, rfl⟩ : ∃ i : Nat, v = i := ⟨v.toNat, by omega⟩
      have S5 := hid (hh.out.step hc5 hg5)
      have hi : i < T := by omega
      have hii : (i : Int) < (T : Int) := by omega
      have hi0 : (0 : Int) ≤ (i : Int) := by omega
      clear hc5 hg5 v1 hh
      obtain ⟨g1, o1, e1, hg1, x0, x1⟩ := PAt.get (OwnS.at pf_len S5.out.own) i hi
      subst e1
      obtain rfl : o1 = 0 := by
        rcases (show w5.ownsRow _ _ _ _ _ _ from S5.out.own).2 with ⟨h1, h0⟩ | ⟨g, cap, cur, h1, -⟩
        · simp at h1
        · simp only [Value.slice.injEq, Option.some.injEq, Addr.mk.injEq] at h1
          exact h1.1.2.1
      simp only [Nat.zero_add] at x0 x1
      go_upto_region 11 with fail
      have S6 := hid (S5.out.below (by go_grown : Below w5.heap.size w5 (w5.alloc (.cells #[.int .i64 (pt L i).1, .int .i64 (pt L i).2] 52))))
      have P6 := hid (heap_alloc_new w5 (.cells #[.int .i64 (pt L i).1, .int .i64 (pt L i).2] 52))
      have hpw : w.heap.size ≤ w5.heap.size := S5.out.gro.size
      have hpg : ∀ k, Value.ownBlock (.slice (some ⟨g1, 0, none⟩) T c') = some k → k ≠ w5.heap.size := fun k e => by have := (OwnS.lt S5.out.own k e).2; omega
      have hg15 : g1 ≠ w5.heap.size := by omega
      have hp6 : w5.heap.size < (w5.alloc (.cells #[.int .i64 (pt L i).1, .int .i64 (pt L i).2] 52)).heap.size := by simp
      obtain ⟨A, hA⟩ : ∃ A, (pt L i).1 = A := ⟨_, rfl⟩
      obtain ⟨B, hB⟩ : ∃ B, (pt L i).2 = B := ⟨_, rfl⟩
      rw [hA, hB] at S6 P6 hp6 ⊢
      obtain ⟨pb, hpb⟩ : ∃ pb, w5.heap.size = pb := ⟨_, rfl⟩
      rw [hpb] at P6 hpw hpg hg15 hp6 ⊢
      generalize w5.alloc (.cells #[.int .i64 A, .int .i64 B] 52) = w6 at *
      clear x0 x1 S5 hA hB hg1
      have hcap := p_cap S6.out.own
      go_wp2_with fail
      refine (c_pick g _ 30 _ S6.out.cur (by omega) (by omega)).mono ?_
      rintro e w7 ⟨⟨v, rfl, v0, v1⟩, hc7, hg7⟩
      have S7 := hid (S6.out.step hc7 hg7)
      have P7 := hid ((hg7.block pb hp6 (fun e => by have := Option.some.inj e; omega)).trans P6.out)
      have hp7 : pb < w7.heap.size := by have := hg7.size; omega
      clear hc7 hg7 S6 P6 hp6
      by_cases e0 : v = 0
      · subst e0
        clear v0 v1
        go_wp2_with fail
        refine (c_among g _ w7.heap.size 4 4 [-1, 1, 1000, 1001] _ (S7.out.cur.below (by go_grown)) (by omega) (IntsAt.lit' _ 3 [-1, 1, 1000, 1001] rfl rfl) (by have := S7.out.cur.lt; omega) (by omega) (by omega)).mono ?_
        rintro e w8 ⟨⟨u8, rfl, hu⟩, hc8, hg8⟩
        have S8 := hid ((S7.out.below (by go_grown)).step hc8 hg8)
        have P8 := hid (((hg8.block pb (by simp; omega) (fun e => by have := Option.some.inj e; have := S7.out.gb; omega)).trans (Below.heap_alloc _ _ _ hp7)).trans P7.out)
        clear hc8 hg8 hu
        obtain ⟨y0, y1⟩ := two_of P8.out
        have hfp := fun j => frozen_of_row w8 pb j _ _ P8.out
        have hp8 : pb < w8.heap.size := (Array.getElem?_eq_some_iff.1 P8.out).1
        have S9 := hid (S8.out.other (p := pb) (j := 0) (u := .int .i64 u8) hpw hpg)
        have P9 := heap_setCell_same _ _ 0 _ _ (.int .i64 u8) P8.out
        simp only [List.setIfInBounds_toArray, List.set_cons_zero, List.set_cons_succ] at P9
        have P9 := hid P9
        go_upto_region 24 with fail
        generalize w8.setCell ⟨pb, 0, none⟩ (.int .i64 u8) = w9 at *
        clear y0 y1 hfp S8 P8 S7 P7
        obtain ⟨y0, y1⟩ := two_of P9.out
        obtain ⟨_, _, e1, hg1, x0, x1⟩ := PAt.get (OwnS.at pf_len S9.out.own) i hi
        cases e1
        simp only [Nat.zero_add] at x0 x1
        have hf := fun j => OwnS.frozen (j := j) S9.out.own
        have hpW : pb < (w9).heap.size := (Array.getElem?_eq_some_iff.1 P9.out).1
        have hgg := S9.out.new rfl
        have hLi : i < L.length := by have := OwnS.len S9.out.own; omega
        have O1 := hid (OwnS.set pf_len (by decide) S9.out.own hi (j := 0) (by decide) (.int .i64 u8) (u8, (L[i]?.getD default).2) rfl).1
        have O2 := hid (OwnS.set pf_len (by decide) O1.out hi (j := 1) (by decide) (.int .i64 B) (u8, B) (by rw [show (L.set i (u8, (L[i]?.getD default).2))[i]?.getD default = (u8, (L[i]?.getD default).2) by simp [hLi]]; rfl)).1
        go_wp2
        go_ret
        exact ⟨⟨_, T, _, rfl, ⟨by omega, by omega⟩, _, OwnS.at pf_len O2.out, fun b o e => S9.out.new e⟩, (((S9.out.cur.le (by omega)).set (by have := S9.out.gb; omega)).set (by have := S9.out.gb; omega)), grown_set (grown_set S9.out.gro (by omega)) (by omega)⟩
      have n0 : (v == 0) = false := by simpa using e0
      clear e0
      by_cases e1 : v = 1
      · subst e1
        clear v0 v1
        go_wp2_with fail
        refine (c_among g _ w7.heap.size 3 3 [-1, 0, 1001] _ (S7.out.cur.below (by go_grown)) (by omega) (IntsAt.lit' _ 3 [-1, 0, 1001] rfl rfl) (by have := S7.out.cur.lt; omega) (by omega) (by omega)).mono ?_
        rintro e w8 ⟨⟨u8, rfl, hu⟩, hc8, hg8⟩
        have S8 := hid ((S7.out.below (by go_grown)).step hc8 hg8)
        have P8 := hid (((hg8.block pb (by simp; omega) (fun e => by have := Option.some.inj e; have := S7.out.gb; omega)).trans (Below.heap_alloc _ _ _ hp7)).trans P7.out)
        clear hc8 hg8 hu
        obtain ⟨y0, y1⟩ := two_of P8.out
        have hfp := fun j => frozen_of_row w8 pb j _ _ P8.out
        have hp8 : pb < w8.heap.size := (Array.getElem?_eq_some_iff.1 P8.out).1
        have S9 := hid (S8.out.other (p := pb) (j := 1) (u := .int .i64 u8) hpw hpg)
        have P9 := heap_setCell_same _ _ 1 _ _ (.int .i64 u8) P8.out
        simp only [List.setIfInBounds_toArray, List.set_cons_zero, List.set_cons_succ] at P9
        have P9 := hid P9
        go_upto_region 24 with fail
        generalize w8.setCell ⟨pb, 1, none⟩ (.int .i64 u8) = w9 at *
        clear y0 y1 hfp S8 P8 S7 P7
        obtain ⟨y0, y1⟩ := two_of P9.out
        obtain ⟨_, _, e1, hg1, x0, x1⟩ := PAt.get (OwnS.at pf_len S9.out.own) i hi
        cases e1
        simp only [Nat.zero_add] at x0 x1
        have hf := fun j => OwnS.frozen (j := j) S9.out.own
        have hpW : pb < (w9).heap.size := (Array.getElem?_eq_some_iff.1 P9.out).1
        have hgg := S9.out.new rfl
        have hLi : i < L.length := by have := OwnS.len S9.out.own; omega
        have O1 := hid (OwnS.set pf_len (by decide) S9.out.own hi (j := 0) (by decide) (.int .i64 A) (A, (L[i]?.getD default).2) rfl).1
        have O2 := hid (OwnS.set pf_len (by decide) O1.out hi (j := 1) (by decide) (.int .i64 u8) (A, u8) (by rw [show (L.set i (A, (L[i]?.getD default).2))[i]?.getD default = (A, (L[i]?.getD default).2) by simp [hLi]]; rfl)).1
        go_wp2
        go_ret
        exact ⟨⟨_, T, _, rfl, ⟨by omega, by omega⟩, _, OwnS.at pf_len O2.out, fun b o e => S9.out.new e⟩, (((S9.out.cur.le (by omega)).set (by have := S9.out.gb; omega)).set (by have := S9.out.gb; omega)), grown_set (grown_set S9.out.gro (by omega)) (by omega)⟩
      have n1 : (v == 1) = false := by simpa using e1
      clear e1
      by_cases e2 : v = 2
      · subst e2
        have h1c : 1 ≤ c' := by omega
        have h1ci : (1 : Int) ≤ (c' : Int) := by omega
        go_wp2
        go_ret
        exact ⟨⟨_, 1, _, rfl, ⟨by omega, by omega⟩, _, SAt.take (OwnS.at pf_len S7.out.own) (by omega), fun b o e => S7.out.new e⟩, S7.out.cur.le (by omega), S7.out.gro⟩
      have n2 : (v == 2) = false := by simpa using e2
      clear e2
      by_cases e3 : v = 3
      · subst e3
        clear v0 v1 P7 hpg
        go_wp2
        go_loopg [3, 4, 5] (7 - T) (fun gm o x y wr => ∃ (k : Nat) (a' : Option Addr) (c' : Nat) (L : List Pt) (p q : Int), 2 ≤ k ∧ k ≤ 7 ∧ gm = 7 - k ∧ o = .slice a' k c' ∧ x = .int .i64 p ∧ y = .int .i64 q ∧ Hid (CB w wr g (K + 40 + 2 * k) a' k c' L))
        case atStart => exact ⟨T, _, _, L, p, q, by omega, by omega, rfl, rfl, rfl, rfl, hid (S7.out.le (by omega))⟩
        case round =>
          clear S7
          obtain ⟨k, a', c', L, p, q, hk2, hk7, rfl, rfl, rfl, rfl, hh⟩ := hrel
          go_wp2_with fail
          refine (c_pick g _ 2 _ hh.out.cur (by omega) (by omega)).mono ?_
          rintro e w8 ⟨⟨v, rfl, v0, v1⟩, hc8, hg8⟩
          have S8 := hid (hh.out.step hc8 hg8)
          have hw6 := IntWalk.i64_in (6 + v) (by omega)
          clear hc8 hg8 hh
          by_cases hlt : (k : Int) < 6 + v
          · have hll := OwnS.len S8.out.own
            have hsz := S8.out.gro.size
            go_wp2_with (at_builtin; refine wp_append_s _ rfl _ _ 25 rfl 52 i0 (.agg #[.int .i64 0, .int .i64 0]) 16 Try.underlying25 HI.out HZ.out HZ1.out HZ2.out rfl (by decide) pf_len pf_one w.heap.size _ L rfl (OwnS.alloc S8.out.own _) _ 1 1 [(p, q)] rfl (SAt.single (e := 52) _ (p, q) pf_len) (k + 1) (by omega) (by omega) (by omega) (by simp; omega) ?_)
            intro a2 c2 w9 hown hgrow hblk
            have S9 := hid (S8.out.put (grownBy_trans (grown_of_below (by go_grown) _) hgrow) hown)
            clear hown hgrow hblk hll S8
            go_wp2
            go_roundg (7 - (k + 1))
            case rel => exact ⟨k + 1, _, _, _, _, _, by omega, by omega, rfl, rfl, rfl, rfl, hid (S9.out.le (by omega))⟩
            case measure => omega
          · go_wp2
            go_ret
            exact ⟨⟨_, k, _, rfl, ⟨by omega, by omega⟩, _, OwnS.at pf_len S8.out.own, fun b o e => S8.out.new e⟩, S8.out.cur.le (by omega), S8.out.gro⟩
      have n3 : (v == 3) = false := by simpa using e3
      clear e3 v0 v1
      go_upto_region 24 with fail
      obtain ⟨y0, y1⟩ := two_of P7.out
      obtain ⟨_, _, e1, hg1, x0, x1⟩ := PAt.get (OwnS.at pf_len S7.out.own) i hi
      cases e1
      simp only [Nat.zero_add] at x0 x1
      have hf := fun j => OwnS.frozen (j := j) S7.out.own
      have hpW : pb < (w7).heap.size := (Array.getElem?_eq_some_iff.1 P7.out).1
      have hgg := S7.out.new rfl
      have hLi : i < L.length := by have := OwnS.len S7.out.own; omega
      have O1 := hid (OwnS.set pf_len (by decide) S7.out.own hi (j := 0) (by decide) (.int .i64 A) (A, (L[i]?.getD default).2) rfl).1
      have O2 := hid (OwnS.set pf_len (by decide) O1.out hi (j := 1) (by decide) (.int .i64 B) (A, B) (by rw [show (L.set i (A, (L[i]?.getD default).2))[i]?.getD default = (A, (L[i]?.getD default).2) by simp [hLi]]; rfl)).1
      go_wp2
      go_ret
      exact ⟨⟨_, T, _, rfl, ⟨by omega, by omega⟩, _, OwnS.at pf_len O2.out, fun b o e => S7.out.new e⟩, (((S7.out.cur.le (by omega)).set (by have := S7.out.gb; omega)).set (by have := S7.out.gb; omega)), grown_set (grown_set S7.out.gro (by omega)) (by omega)⟩

end Go.Proofs.Ytpcbeapajlchgaa

/-
  From a walk to a law's row: every argument reads as it did, because nothing that was there has turned.
-/
set_option linter.unusedVariables false
set_option linter.unusedSimpArgs false
namespace Go.Proofs.Ytpcbeapajlchgaa
open Go.ChangeShapes Go.WideShapes Go.ChangeAt Go.RowKit Go.Joins

theorem Try.own : ownKnob Try.prog.godebug = none := by kernel_rfl
theorem Try.laidOut : laidOutB Try.prog = true := by kernel_rfl

theorem Try.cellsInt : Try.prog.cellsOf 3 = 1 := by kernel_rfl

theorem trodAll_below {H : Type} {enc : TypeId × Value → H} {W W' : World} (hb : Below W.heap.size W W') : ∀ (ts : List TypeId) (vs : List Value) (ds : List (DataW H)) (ps : List MemPlace),
    (∀ t ∈ ts, Try.prog.readableRec t = true ∧ t < Try.prog.types.size) → DataW.TrodAll enc Try.prog W 0 (fun _ => true) true ts vs ds ps → (∀ x ∈ ps, x.block < W.heap.size) →
    DataW.TrodAll enc Try.prog W' 0 (fun b => decide (b < W.heap.size)) true ts vs ds ps
  | [], vs, ds, ps, _, h, _ => by
    obtain ⟨rfl, rfl, rfl⟩ := trodAll_nil h
    exact trodAll_mk0
  | t :: ts, vs, ds, ps, hg, h, hl => by
    obtain ⟨v, vs', d, ds', p, q, rfl, rfl, rfl, h1, h2⟩ := trodAll_cons h
    have hg1 := hg t (by simp)
    exact trodAll_cons_mk (Below.trod Try.laidOut hg1.1 hg1.2 h1 hb (fun x hx => hl x (by simp [hx]))) (trodAll_below hb ts vs' ds' q (fun t ht => hg t (by simp [ht])) h2 (fun x hx => hl x (by simp [hx])))

set_option maxRecDepth 100000 in
theorem law_post {H : Type} {enc : TypeId × Value → H} {f : Func} {s : ChangeSpec} (hvars : s.vars = []) (hres : f.resultTypes = #[4]) (hgood : (f.params.toList.all fun t => Try.prog.readableRec t && decide (t < Try.prog.types.size)) = true)
    {W W' : World} {args : Array Value} {ds gs : List (DataW H)} {before : List MemPlace} (hW : DataW.Whole enc Try.prog f.params.toList s.vars false W args.toList ds gs before)
    (h1 : (s.fn H (ds ++ gs)).results = [.lit (.bool true)]) (h2 : (s.fn H (ds ++ gs)).args = ds) (h3 : (s.fn H (ds ++ gs)).vars = []) (hb : Below W.heap.size W W') :
    s.post enc Try.prog f false true false false W args (.bool true) W' := by
  have hW' := hW
  obtain ⟨p, q, hA, hV, rfl, hfz, hnd⟩ := hW
  have hlt : ∀ x ∈ p, x.block < W.heap.size := fun x hx => hW'.lt x (by simp [hx])
  refine ⟨ds, gs, p ++ q, [], p, [], hW', ?_, ?_, ?_, hb.frame _, fun h => by cases h⟩
  · rw [h1, hres]
    exact trodAll_mk1 (shut_bool Try.underlying4 true)
  · rw [h2]
    exact trodAll_below hb _ _ _ _ (fun t ht => by have := List.all_eq_true.1 hgood t ht; simpa using this) hA hlt
  · rw [h3, hvars]; rfl

set_option maxRecDepth 100000 in
theorem open_ints_at {H : Type} {enc : TypeId × Value → H} {W : World} {base : Nat} {v : Value} {d : DataW H} {p : List MemPlace}
    (hv : Value.okWide Try.prog W .any base 81 v) (h : DataW.Trod enc Try.prog W 0 (fun _ => true) true 81 v d p) :
    ∃ a n c l, v = .slice a n c ∧ IntsAt W a n l ∧ ∀ x ∈ l, -9223372036854775808 ≤ x ∧ x ≤ 9223372036854775807 := by
  obtain ⟨a0, len, cap, rfl⟩ := okWide_slice Try.underlying81 hv
  obtain ⟨fuel, hf⟩ := h
  rcases open_ints Try.underlying81 Try.underlying3 Try.cellsInt hf with ⟨hcs, hx⟩ | ⟨a, len', cap', zs, hcs, _, hl, hm, hz, hx, hcell, hwz⟩
  · simp [Value.cells] at hcs
    obtain ⟨rfl, rfl, rfl⟩ := hcs
    exact ⟨_, _, _, [], rfl, IntsAt.nil _ _, fun x hx => by cases hx⟩
  · simp [Value.cells] at hcs
    obtain ⟨rfl, rfl, rfl⟩ := hcs
    simp at hz
    refine ⟨_, _, _, zs.take len, rfl, ⟨by rw [List.length_take]; omega, ?_⟩, ?_⟩
    · intro k hk
      have h0 := hcell 0 (by omega)
      have hb := World.block_lt_of_cell? W _ (hcell 0 (by omega))
      have hsp : a.spot = none := by
        simp only [Addr.add, if_pos] at h0
        unfold World.cell? at h0
        split at h0
        · split at h0
          · cases h0
          · rename_i hs
            cases hq : a.spot with
            | none => rfl
            | some _ => rw [hq] at hs; exact absurd rfl hs
        · cases h0
      obtain ⟨b, off, sp⟩ := a
      simp only at hsp
      subst hsp
      refine ⟨b, off, rfl, by simpa [addr_add] using hb, ?_⟩
      have hk' := hcell k (by omega)
      rw [addr_add] at hk'
      rw [hk', List.getElem?_take, if_pos hk]
      rfl
    · intro x hx
      have := hwz x (List.mem_of_mem_take hx)
      simpa [Lit.wf, IntKind.min, IntKind.max, IntKind.signed, IntKind.bits] using this

end Go.Proofs.Ytpcbeapajlchgaa

/-
  A code of bytes as an argument.
-/
set_option linter.unusedVariables false
set_option linter.unusedSimpArgs false
namespace Go.Proofs.Ytpcbeapajlchgaa
open Go.ChangeShapes Go.WideShapes Go.ChangeAt Go.RowKit Go.Joins

theorem Try.cellsByte : Try.prog.cellsOf 5 = 1 := by kernel_rfl

set_option maxRecDepth 100000 in
theorem open_bytes {H : Type} {enc : TypeId × Value → H} {W : World} {base : Nat} {v : Value} {d : DataW H} {p : List MemPlace}
    (hv : Value.okWide Try.prog W .any base 47 v) (h : DataW.Trod enc Try.prog W 0 (fun _ => true) true 47 v d p) :
    ∃ a n c, v = .slice a n c ∧ BytesAt W a n := by
  obtain ⟨a0, len, cap, rfl⟩ := okWide_slice Try.underlying47 hv
  obtain ⟨fuel, hf⟩ := h
  rcases open_ints Try.underlying47 Try.underlying5 Try.cellsByte hf with ⟨hcs, hx⟩ | ⟨a, len', cap', zs, hcs, _, hl, hm, hz, hx, hcell, hwz⟩
  · simp [Value.cells] at hcs
    obtain ⟨rfl, rfl, rfl⟩ := hcs
    exact ⟨_, _, _, rfl, by omega, fun i hi => by omega⟩
  · simp [Value.cells] at hcs
    obtain ⟨rfl, rfl, rfl⟩ := hcs
    simp at hz
    refine ⟨_, _, _, rfl, by have := hm; unfold maxLen at *; omega, ?_⟩
    intro k hk
    have h0 := hcell 0 (by omega)
    have hb := World.block_lt_of_cell? W _ (hcell 0 (by omega))
    have hsp : a.spot = none := by
      simp only [Addr.add, if_pos] at h0
      unfold World.cell? at h0
      split at h0
      · split at h0
        · cases h0
        · rename_i hs
          cases hq : a.spot with
          | none => rfl
          | some _ => rw [hq] at hs; exact absurd rfl hs
      · cases h0
    obtain ⟨b, off, sp⟩ := a
    simp only at hsp
    subst hsp
    have hk' := hcell k (by omega)
    rw [addr_add] at hk'
    have hw := hwz _ (getD_mem zs k (by omega))
    have hw2 : 0 ≤ zs[k]?.getD 0 ∧ zs[k]?.getD 0 < 256 := by
      have : 0 ≤ zs[k]?.getD 0 ∧ zs[k]?.getD 0 ≤ 255 := by simpa [Lit.wf, IntKind.min, IntKind.max, IntKind.signed, IntKind.bits] using hw
      omega
    exact ⟨b, off, _, rfl, by simpa [addr_add] using hb, hk', hw2.1, hw2.2⟩

end Go.Proofs.Ytpcbeapajlchgaa

/-
  The draws of curves.
-/
set_option linter.unusedVariables false
set_option linter.unusedSimpArgs false
namespace Go.Proofs.Ytpcbeapajlchgaa
open Go.RowKit

set_option maxRecDepth 100000 in
set_option maxHeartbeats 8000000 in
theorem s_DrawHeadAt (a0 : Option Addr) (n0 c0 : Nat) (w : World) (h : BytesAt w a0 n0) :
    Calls Try.prog 42 #[.slice a0 n0 c0] w fun e w' => ∃ (a : Option Addr) (n c : Nat) (L : List Pt) (q : Int), e = .returned (.tuple #[.slice a n c, .int .i64 q]) ∧ (PAt w' a n L ∧ 1 ≤ n ∧ n ≤ 7) ∧ Below w.heap.size w w' := by
  have H := hid h
  clear h
  go_enter Try.func42, Try.ntmps42
  go_upto_region 2 with fail
  have C0 := hid (Cur.start (c := c0) (g := w.heap.size) H.out rfl)
  have B0 := hid (by go_grown : Below w.heap.size w (w.alloc (.cells #[.slice a0 n0 c0, .int .i64 0, .int .u64 0] 90)))
  have hz0 : w.heap.size < (w.alloc (.cells #[.slice a0 n0 c0, .int .i64 0, .int .u64 0] 90)).heap.size := by simp
  obtain ⟨g, hgg⟩ : ∃ g, w.heap.size = g := ⟨_, rfl⟩
  have hgw : w.heap.size ≤ g := by omega
  rw [hgg] at C0 hz0 ⊢
  generalize w.alloc (.cells #[.slice a0 n0 c0, .int .i64 0, .int .u64 0] 90) = w0 at *
  clear hgg
  go_wp2_with fail
  refine (c_curve g 0 _ C0.out (by omega)).mono ?_
  rintro e w1 ⟨⟨a, n, c, rfl, ⟨hn1, hn2⟩, L, hp, hne⟩, hc1, hg1⟩
  have HP := hid hp
  have HNE := hid (fun b o (e : a = some ⟨b, o, none⟩) => (by have := hne b o e; omega : b ≠ g))
  have HC := hid hc1
  have HB := hid (Below.grown B0.out hg1 B0.out.size (fun q e => by have := Option.some.inj e; omega) : Below w.heap.size w w1)
  clear hp hne hc1 hg1
  go_wp2_with fail
  refine (c_among g _ w1.heap.size 10 10 [0, 1, 3, 5, 10, 12, 20, 31, 90, -1] _ (HC.out.below (by go_grown)) (by omega) (IntsAt.lit' _ 3 [0, 1, 3, 5, 10, 12, 20, 31, 90, -1] rfl rfl) (by have := HC.out.lt; omega) (by omega) (by omega)).mono ?_
  rintro e w2 ⟨⟨u, rfl, hu⟩, hc2, hg2⟩
  have HG := hid (grownBy_trans (grown_of_below (by go_grown) _) hg2 : w1.grownBy w2 (some g))
  have HP2 := hid (SAt.kept HP.out HG.out (fun b o e e2 => HNE.out b o e (Option.some.inj e2)))
  have HB2 := hid (Below.grown HB.out HG.out HB.out.size (fun q e => by have := Option.some.inj e; omega))
  clear hc2 hg2 hu HG
  go_wp2
  go_ret2
  exact ⟨a, n, c, L, u, rfl, ⟨HP2.out, hn1, hn2⟩, HB2.out⟩
set_option maxRecDepth 100000 in
set_option maxHeartbeats 8000000 in
theorem s_DrawRaiseCurve (a0 : Option Addr) (n0 c0 : Nat) (w : World) (h : BytesAt w a0 n0) :
    Calls Try.prog 44 #[.slice a0 n0 c0] w fun e w' => ∃ (a : Option Addr) (n c : Nat) (L : List Pt) (q : Int), e = .returned (.tuple #[.slice a n c, .int .i64 q]) ∧ (PAt w' a n L ∧ 1 ≤ n ∧ n ≤ 7) ∧ Below w.heap.size w w' := by
  have H := hid h
  clear h
  go_enter Try.func44, Try.ntmps44
  go_upto_region 2 with fail
  have C0 := hid (Cur.start (c := c0) (g := w.heap.size) H.out rfl)
  have B0 := hid (by go_grown : Below w.heap.size w (w.alloc (.cells #[.slice a0 n0 c0, .int .i64 0, .int .u64 0] 90)))
  have hz0 : w.heap.size < (w.alloc (.cells #[.slice a0 n0 c0, .int .i64 0, .int .u64 0] 90)).heap.size := by simp
  obtain ⟨g, hgg⟩ : ∃ g, w.heap.size = g := ⟨_, rfl⟩
  have hgw : w.heap.size ≤ g := by omega
  rw [hgg] at C0 hz0 ⊢
  generalize w.alloc (.cells #[.slice a0 n0 c0, .int .i64 0, .int .u64 0] 90) = w0 at *
  clear hgg
  go_wp2_with fail
  refine (c_curve g 0 _ C0.out (by omega)).mono ?_
  rintro e w1 ⟨⟨a, n, c, rfl, ⟨hn1, hn2⟩, L, hp, hne⟩, hc1, hg1⟩
  have HP := hid hp
  have HNE := hid (fun b o (e : a = some ⟨b, o, none⟩) => (by have := hne b o e; omega : b ≠ g))
  have HC := hid hc1
  have HB := hid (Below.grown B0.out hg1 B0.out.size (fun q e => by have := Option.some.inj e; omega) : Below w.heap.size w w1)
  clear hp hne hc1 hg1
  go_wp2_with fail
  refine (c_among g _ w1.heap.size 9 9 [0, 1, -5, 100, -40, 1000, -1000, 1001, -1001] _ (HC.out.below (by go_grown)) (by omega) (IntsAt.lit' _ 3 [0, 1, -5, 100, -40, 1000, -1000, 1001, -1001] rfl rfl) (by have := HC.out.lt; omega) (by omega) (by omega)).mono ?_
  rintro e w2 ⟨⟨u, rfl, hu⟩, hc2, hg2⟩
  have HG := hid (grownBy_trans (grown_of_below (by go_grown) _) hg2 : w1.grownBy w2 (some g))
  have HP2 := hid (SAt.kept HP.out HG.out (fun b o e e2 => HNE.out b o e (Option.some.inj e2)))
  have HB2 := hid (Below.grown HB.out HG.out HB.out.size (fun q e => by have := Option.some.inj e; omega))
  clear hc2 hg2 hu HG
  go_wp2
  go_ret2
  exact ⟨a, n, c, L, u, rfl, ⟨HP2.out, hn1, hn2⟩, HB2.out⟩

end Go.Proofs.Ytpcbeapajlchgaa

/-
  Steps of a drawn region, operation by operation.
-/
set_option linter.unusedVariables false
set_option linter.unusedSimpArgs false
namespace Go.Proofs.Ytpcbeapajlchgaa
open Go.RowKit

theorem drop_get {α : Type} {l : Array α} {i : Nat} {x : α} {r : List α} (h : l.toList.drop i = x :: r) : l[i]? = some x := by
  have e : (l.toList.drop i)[0]? = some x := by rw [h]; rfl
  rw [List.getElem?_drop] at e
  simpa using e
theorem wpAnyH_take' {P : Program} {md : Region.Mode} {ops : Array Oper} {Q : Exit → Act → World → Prop} {S : World → Prop} {i : Nat} {oi : Oper} {rest : List Oper} {v : Value} {fuel : Nat} {listed : Array Bool} {a : Act} {w : World} (hi : ops.toList.drop i = oi :: rest)
    (hs : Region.noSelect ops = true) (hf : Region.free md ops listed i = true) (hr : (Region.ready md ops listed).contains i = true)
    (hQ : ∀ c a w, Q (.panic c) (a.put oi.dst v) w → Q (.panic c) a w) (hy : YieldsIf P ops S oi v a) (hS : S w)
    (h : wpAnyH P md ops Q S fuel (listed.setIfInBounds i true) (a.put oi.dst v) w) : wpAnyH P md ops Q S (fuel + 1) listed a w :=
  wpAnyH_take (drop_get hi) hs hf hr hQ hy hS h
theorem allReadyH_cons' {P : Program} {md : Region.Mode} {ops : Array Oper} {Q : Exit → Act → World → Prop} {S : World → Prop} {fuel : Nat} {listed : Array Bool} {a : Act} {w : World} {i : Nat} {o : Oper} {rest : List Oper} {rs : List Nat} (ho : ops.toList.drop i = o :: rest)
    (h : ∀ K' : Act → World → Prop, Shut (∀ a w, S w → (S w → wpAnyH P md ops Q S fuel (listed.setIfInBounds i true) a w) → K' a w) → if Region.wanted o (yielded ops a.tmps) = true then Oper.wp P o a w K' Q else K' (a.put o.dst undef) w)
    (hs : AllReadyH P md ops Q S fuel listed a w rs) : AllReadyH P md ops Q S fuel listed a w (i :: rs) := AllReadyH.cons (drop_get ho) h hs

end Go.Proofs.Ytpcbeapajlchgaa

/-
  Two slices' own blocks are not the same, by the worlds in which they were made.
-/
set_option linter.unusedVariables false
namespace Go.Proofs.Ytpcbeapajlchgaa
open Go.RowKit

theorem ne_of_older {x y : Option Nat} {B1 S1 B2 S2 : Nat} (h1 : ∀ k, x = some k → B1 ≤ k ∧ k < S1) (h2 : ∀ k, y = some k → B2 ≤ k ∧ k < S2) (h : S1 ≤ B2) : x = none ∨ x ≠ y := by
  cases x with
  | none => exact .inl rfl
  | some k =>
    refine .inr fun e => ?_
    have := h1 k rfl
    have := h2 k e.symm
    omega
theorem ne_of_younger {x y : Option Nat} {B1 S1 B2 S2 : Nat} (h1 : ∀ k, x = some k → B1 ≤ k ∧ k < S1) (h2 : ∀ k, y = some k → B2 ≤ k ∧ k < S2) (h : S2 ≤ B1) : x = none ∨ x ≠ y := by
  cases x with
  | none => exact .inl rfl
  | some k =>
    refine .inr fun e => ?_
    have := h1 k rfl
    have := h2 k e.symm
    omega

end Go.Proofs.Ytpcbeapajlchgaa

/-
  An argument that is a slice of structs of whole numbers, opened.
-/
set_option linter.unusedVariables false
set_option linter.unusedSimpArgs false
namespace Go.Proofs.Ytpcbeapajlchgaa
open Go.ChangeShapes Go.WideShapes Go.ChangeAt Go.RowKit Go.Joins Go.Deep

theorem spot_none {w : World} {a : Addr} {v : Value} (h : w.cell? a = some v) : a.spot = none := by
  unfold World.cell? at h
  split at h
  · split at h
    · cases h
    · rename_i hs
      cases hq : a.spot with
      | none => rfl
      | some _ => rw [hq] at hs; exact absurd rfl hs
  · cases h

abbrev i64 (x : Int) : Prop := -9223372036854775808 ≤ x ∧ x ≤ 9223372036854775807
theorem wf_i64 {n : Int} (h : (Lit.int .i64 n).wf = true) : i64 n := by
  simpa [Lit.wf, IntKind.min, IntKind.max, IntKind.signed, IntKind.bits] using h

set_option maxRecDepth 100000 in
theorem open_structs_at {α : Type} [Inhabited α] (f : α → List Value) (s : Nat) (hs : 0 < s) (hfl : ∀ x, (f x).length = s) (G : α → Prop) {H : Type} {enc : TypeId × Value → H} {W : World} {base : Nat} {v : Value} {d : DataW H} {p : List MemPlace} {t e : TypeId}
    (ht : Try.prog.underlying t = some (.slice e)) (hC : Try.prog.cellsOf e = s)
    (hel : ∀ fuel cs x, DataW.trod enc Try.prog W 0 (fun _ => true) true fuel e cs = some x → ∃ y, cs = f y ∧ G y)
    (hv : Value.okWide Try.prog W .any base t v) (h : DataW.Trod enc Try.prog W 0 (fun _ => true) true t v d p) :
    ∃ a n c l, v = .slice a n c ∧ SAt f s W a n l ∧ n ≤ 9223372036854775807 ∧ ∀ x ∈ l, G x := by
  obtain ⟨a0, len, cap, rfl⟩ := okWide_slice ht hv
  obtain ⟨fuel, hf⟩ := h
  rcases open_slice ht hf with ⟨hcs, hx⟩ | ⟨a, len', cap', m, n, D, Pl, hcs, _, hl, hm, hmm, hx, hi⟩
  · simp [Value.cells] at hcs
    obtain ⟨rfl, rfl, rfl⟩ := hcs
    exact ⟨_, _, _, [], rfl, SAt.nil _ _, by omega, fun x hx => by cases hx⟩
  · simp [Value.cells] at hcs
    obtain ⟨rfl, rfl, rfl⟩ := hcs
    simp only [if_true] at hmm
    subst hmm
    have he : ∀ i, ∃ y, i < m → (∀ j, j < s → W.cell? ((a.add (i * s)).add j) = (f y)[j]?) ∧ G y := by
      intro i
      by_cases hlt : i < m
      · obtain ⟨cs', h1, h2⟩ := hi i hlt
        obtain ⟨y, rfl, hg⟩ := hel _ _ _ h2
        rw [hC] at h1
        exact ⟨y, fun _ => ⟨(World.cells?_some h1).2.2, hg⟩⟩
      · exact ⟨default, fun h => absurd h hlt⟩
    have hy := fun i => Classical.choose_spec (he i)
    generalize hY : (fun i => Classical.choose (he i)) = Y at hy
    have hy' : ∀ i, i < m → (∀ j, j < s → W.cell? ((a.add (i * s)).add j) = (f (Y i))[j]?) ∧ G (Y i) := by
      intro i; have := hy i; rw [← hY]; exact this
    refine ⟨_, _, _, (List.range len).map Y, rfl, ⟨by simp, ?_⟩, by unfold maxLen at hm; omega, ?_⟩
    · intro k hk
      have h0 := (hy' k (by omega)).1 0 hs
      have hlen := hfl (Y k)
      rw [List.getElem?_eq_getElem (by omega)] at h0
      have hb := World.block_lt_of_cell? W _ h0
      have h00 := (hy' 0 (by omega)).1 0 hs
      have hlen0 := hfl (Y 0)
      rw [List.getElem?_eq_getElem (by omega)] at h00
      have hsp := spot_none h00
      obtain ⟨b, off, sp⟩ := a
      have hsp' : sp = none := by simpa [Addr.add] using hsp
      subst hsp'
      simp only [addr_add] at hb
      refine ⟨b, off, rfl, hb, fun j hj => ?_⟩
      have := (hy' k (by omega)).1 j hj
      simp only [addr_add] at this
      rw [this]
      simp [hk]
    · intro x hx
      obtain ⟨i, hi1, rfl⟩ := List.mem_map.1 hx
      exact (hy' i (by have := List.mem_range.1 hi1; omega)).2

theorem int_cells {H : Type} {enc : TypeId × Value → H} {W : World} {fuel : Nat} {cs : List Value} {y : DataW H × List MemPlace} {j s : Nat} (hlen : cs.length = s) (hj : j < s)
    (h : DataW.trod enc Try.prog W 0 (fun _ => true) true fuel 3 ((cs.drop j).take 1) = some y) : ∃ x, cs[j]? = some (.int .i64 x) ∧ i64 x := by
  obtain ⟨x, e, _, wf⟩ := DataW.trod_int Try.underlying3 h
  have e' := congrArg (fun l => l[0]?) e
  exact ⟨x, by simpa [List.getElem?_take, List.getElem?_drop] using e', wf_i64 wf⟩

end Go.Proofs.Ytpcbeapajlchgaa

/-
  A curve, as an argument, opened.
-/
set_option linter.unusedVariables false
set_option linter.unusedSimpArgs false
namespace Go.Proofs.Ytpcbeapajlchgaa
open Go.ChangeShapes Go.WideShapes Go.ChangeAt Go.RowKit Go.Joins Go.Deep

theorem Try.cellsCurvePoint : Try.prog.cellsOf 67 = 2 := by kernel_rfl
theorem Try.cellsOfInt : Try.prog.cellsOf 3 = 1 := by kernel_rfl

theorem open_pts_at {H : Type} {enc : TypeId × Value → H} {W : World} {base : Nat} {v : Value} {d : DataW H} {p : List MemPlace}
    (hv : Value.okWide Try.prog W .any base 22 v) (h : DataW.Trod enc Try.prog W 0 (fun _ => true) true 22 v d p) :
    ∃ a n c l, v = .slice a n c ∧ PAt W a n l ∧ n ≤ 9223372036854775807 ∧ ∀ x ∈ l, i64 x.1 ∧ i64 x.2 := by
  refine open_structs_at pf 2 (by decide) pf_len (fun x => i64 x.1 ∧ i64 x.2) Try.underlying22 Try.cellsCurvePoint ?_ hv h
  intro fuel cs x hx
  obtain ⟨y0, y1, n, _, hlen, h0, h1⟩ := trod_struct2 Try.underlying67 hx
  rw [Try.cellsCurvePoint] at hlen
  rw [Try.cellsOfInt] at h0 h1
  obtain ⟨x0, e0, b0⟩ := int_cells hlen (by decide) h0
  obtain ⟨x1, e1, b1⟩ := int_cells hlen (by decide) h1
  refine ⟨(x0, x1), ?_, b0, b1⟩
  apply List.ext_getElem?
  intro i
  match i with
  | 0 => rw [e0]; rfl
  | 1 => rw [e1]; rfl
  | i + 2 => rw [List.getElem?_eq_none (by omega)]; rfl

end Go.Proofs.Ytpcbeapajlchgaa

/-
  The law FnExactRaiseCurve returns true for every input, and leaves its arguments as they were. No condition.
-/
set_option linter.unusedVariables false
set_option linter.unusedSimpArgs false
namespace Go.Proofs.Ytpcbeapajlchgaa
open Go.ChangeShapes Go.WideShapes Go.ChangeAt Go.RowKit Go.Joins Go.Deep

set_option maxHeartbeats 2000000 in
theorem law_RaiseCurve (a : Option Addr) (n c : Nat) (l : List Pt) (q : Int) (w : World) (h : PAt w a n l) (hmax : n ≤ 9223372036854775807) (bq : i64 q) :
    Calls Try.prog 4 #[.slice a n c, .int .i64 q] w fun e w' => e = .returned (.bool true) ∧ Below w.heap.size w w' := by
  have H_l := hid h
  clear h
  by_cases hn : 1048576 < n
  · go_enter Try.func4, Try.ntmps4
    go_wp2_with fail
    refine (l_szCurvePointS_no _ _ _ _ (by omega) (by omega)).mono ?_
    rintro e _ ⟨rfl, rfl⟩
    go_wp2
    go_ret
    exact ⟨rfl, by go_grown⟩
  obtain ⟨R, b, hR⟩ : ∃ R b, raiseR l q = (R, b) := ⟨_, _, rfl⟩
  have HR := hid hR
  have hRl : R.length ≤ 6 := raiseR_len hR
  clear hR
  have hx : (b != b) = false := by simp
  have hy : ((1 + 2 * (R.length : Int)) != (1 + 2 * (R.length : Int))) = false := by simp
  go_enter Try.func4, Try.ntmps4
  go_wp2_with fail
  refine (l_szCurvePointS_yes _ _ _ _ (by omega)).mono ?_
  rintro e _ ⟨rfl, rfl⟩
  go_wp2_with fail
  refine (l_toCurvePointS _ _ _ l _ (H_l.out.below (by go_grown)) (by omega)).mono ?_
  rintro e w1 ⟨a1, c1, rfl, o1, hb⟩
  have HB_1 := hid (bstep (by go_grown) hb : Below w.heap.size w w1)
  have B_1 := HB_1
  have S_1 := HB_1.out.size
  clear hb
  have O_s1 := hid o1
  clear o1
  go_wp2_with fail
  refine (s_RaiseCurve _ _ _ q l _ ((OwnS.at pf_len O_s1.out).below (by go_grown)) (by omega) R b HR.out).mono ?_
  rintro e w2 ⟨a2, c2, rfl, o2, hb⟩
  have HB_2 := hid (bstep (by go_grown) hb : Below w1.heap.size w1 w2)
  have B_2 := hid (bstep B_1.out HB_2.out)
  have S_2 := HB_2.out.size
  clear hb
  have O_w0 := hid o2
  clear o2
  go_wp2_with fail
  refine (l_toCurvePointS _ _ _ l _ ((H_l.out.below B_2.out).below (by go_grown)) (by omega)).mono ?_
  rintro e w3 ⟨a3, c3, rfl, o3, hb⟩
  have HB_3 := hid (bstep (by go_grown) hb : Below w2.heap.size w2 w3)
  have B_3 := hid (bstep B_2.out HB_3.out)
  have S_3 := HB_3.out.size
  clear hb
  have O_x0 := hid o3
  clear o3
  go_wp2_with fail
  refine (i_RaiseCurve _ _ _ q l _ ((OwnS.at pf_len O_x0.out).below (by go_grown)) (by omega) R b HR.out).mono ?_
  rintro e w4 ⟨a4, c4, rfl, o4, hb⟩
  have HB_4 := hid (bstep (by go_grown) hb : Below w3.heap.size w3 w4)
  have B_4 := hid (bstep B_3.out HB_4.out)
  have S_4 := HB_4.out.size
  clear hb
  have O_g0 := hid o4
  clear o4
  have O_w0_4 := hid ((O_w0.out.below HB_3.out).below HB_4.out)
  go_wp2_with fail
  refine (l_eqCurvePointS _ _ _ _ _ R _ ((OwnS.at pf_len O_g0.out).below (by go_grown)) ((OwnS.at pf_len O_w0_4.out).below (by go_grown)) (by omega)).mono ?_
  rintro e w5 ⟨rfl, hb⟩
  have HB_5 := hid (bstep (by go_grown) hb : Below w4.heap.size w4 w5)
  have B_5 := hid (bstep B_4.out HB_5.out)
  have S_5 := HB_5.out.size
  clear hb
  go_wp2_with fail
  refine (l_toCurvePointS _ _ _ l _ ((H_l.out.below B_5.out).below (by go_grown)) (by omega)).mono ?_
  rintro e w6 ⟨a5, c5, rfl, o5, hb⟩
  have HB_6 := hid (bstep (by go_grown) hb : Below w5.heap.size w5 w6)
  have B_6 := hid (bstep B_5.out HB_6.out)
  have S_6 := HB_6.out.size
  clear hb
  have O_y0 := hid o5
  clear o5
  have O_x0_6 := hid (((O_x0.out.below HB_4.out).below HB_5.out).below HB_6.out)
  go_wp2_with fail
  refine (l_eqCurvePointS _ _ _ _ _ l _ ((OwnS.at pf_len O_x0_6.out).below (by go_grown)) ((OwnS.at pf_len O_y0.out).below (by go_grown)) (by omega)).mono ?_
  rintro e w7 ⟨rfl, hb⟩
  have HB_7 := hid (bstep (by go_grown) hb : Below w6.heap.size w6 w7)
  have B_7 := hid (bstep B_6.out HB_7.out)
  have S_7 := HB_7.out.size
  clear hb
  have O_x0_7 := hid (O_x0_6.out.below HB_7.out)
  have O_g0_7 := hid (((O_g0.out.below HB_5.out).below HB_6.out).below HB_7.out)
  have O_w0_7 := hid (((O_w0_4.out.below HB_5.out).below HB_6.out).below HB_7.out)
  go_wp2_with fail
  refine (l_markCurvePointS _ _ _ _ l _ _ O_x0_7.out (by omega) (by omega)).mono ?_
  rintro e w8 ⟨rfl, ho, hg⟩
  have S_8 := hg.size
  have L_8 := hid (O_x0.out).lt
  have B_8 := hid (B_7.out.grown hg B_7.out.size (fun q hq => by have := (L_8.out q hq).1; omega))
  have O_g0_8 := hid (O_g0_7.out.kept hg (ne_of_younger O_g0.out.lt O_x0.out.lt (by omega)))
  have O_w0_8 := hid (O_w0_7.out.kept hg (ne_of_older O_w0.out.lt O_x0.out.lt (by omega)))
  have O_x0_8 := hid ho
  clear ho hg
  go_wp2_with fail
  refine (l_eqCurvePointS _ _ _ _ _ R _ ((OwnS.at pf_len O_g0_8.out).below (by go_grown)) ((OwnS.at pf_len O_w0_8.out).below (by go_grown)) (by omega)).mono ?_
  rintro e w9 ⟨rfl, hb⟩
  have HB_9 := hid (bstep (by go_grown) hb : Below w8.heap.size w8 w9)
  have B_9 := hid (bstep B_8.out HB_9.out)
  have S_9 := HB_9.out.size
  clear hb
  have O_g0_9 := hid (O_g0_8.out.below HB_9.out)
  have O_w0_9 := hid (O_w0_8.out.below HB_9.out)
  go_wp2_with fail
  refine (l_markCurvePointS _ _ _ _ R _ _ O_g0_9.out (by omega) (by omega)).mono ?_
  rintro e w10 ⟨rfl, ho, hg⟩
  have S_10 := hg.size
  have L_10 := hid (O_g0.out).lt
  have B_10 := hid (B_9.out.grown hg B_9.out.size (fun q hq => by have := (L_10.out q hq).1; omega))
  have O_w0_10 := hid (O_w0_9.out.kept hg (ne_of_older O_w0.out.lt O_g0.out.lt (by omega)))
  have O_g0_10 := hid ho
  clear ho hg
  go_wp2_with fail
  refine (l_heldCurvePointS _ _ _ _ _ ((OwnS.at pf_len O_g0_10.out).below (by go_grown)) (by omega) (by omega)).mono ?_
  rintro e _ ⟨rfl, rfl⟩
  go_wp2_with fail
  refine (l_toCurvePointS _ _ _ l _ ((H_l.out.below B_10.out).below (by go_grown)) (by omega)).mono ?_
  rintro e w11 ⟨a6, c6, rfl, o6, hb⟩
  have HB_11 := hid (bstep (by go_grown) hb : Below w10.heap.size w10 w11)
  have B_11 := hid (bstep B_10.out HB_11.out)
  have S_11 := HB_11.out.size
  clear hb
  have O_z0 := hid o6
  clear o6
  go_wp2_with fail
  refine (i_RaiseCurve _ _ _ q l _ ((OwnS.at pf_len O_z0.out).below (by go_grown)) (by omega) R b HR.out).mono ?_
  rintro e w12 ⟨a7, c7, rfl, o7, hb⟩
  have HB_12 := hid (bstep (by go_grown) hb : Below w11.heap.size w11 w12)
  have B_12 := hid (bstep B_11.out HB_12.out)
  have S_12 := HB_12.out.size
  clear hb
  have O_h0 := hid o7
  clear o7
  have O_w0_12 := hid ((O_w0_10.out.below HB_11.out).below HB_12.out)
  go_wp2_with fail
  refine (l_eqCurvePointS _ _ _ _ _ R _ ((OwnS.at pf_len O_h0.out).below (by go_grown)) ((OwnS.at pf_len O_w0_12.out).below (by go_grown)) (by omega)).mono ?_
  rintro e w13 ⟨rfl, hb⟩
  have HB_13 := hid (bstep (by go_grown) hb : Below w12.heap.size w12 w13)
  have B_13 := hid (bstep B_12.out HB_13.out)
  have S_13 := HB_13.out.size
  clear hb
  have O_g0_13 := hid (((O_g0_10.out.below HB_11.out).below HB_12.out).below HB_13.out)
  go_wp2_with fail
  refine (l_heldCurvePointS _ _ _ _ _ ((OwnS.at pf_len O_g0_13.out).below (by go_grown)) (by omega) (by omega)).mono ?_
  rintro e _ ⟨rfl, rfl⟩
  go_wp2
  go_ret
  exact ⟨rfl, B_13.out⟩

set_option maxRecDepth 100000 in
theorem fnExactRaiseCurve_lifted (os : Os) (started : os.Started) (H : Type) (enc : TypeId × Value → H) :
    ReturnsInHanded {} Try.checked os 4 .any (Rows.fnExactRaiseCurveSpec.pre6 enc Try.prog Try.f4 Rows.fnExactRaiseCurveRow.domain false) (Rows.fnExactRaiseCurveSpec.post enc Try.prog Try.f4 false true false false) := by
  refine returnsInHanded_of_change (C := Try.checked) Try.own started (by kernel_rfl) Try.func4
    (ChangeSpec.witness6 (enc := enc) (C := Try.checked) false ⟨#[], #[.slice none 0 0, .int .i64 0], []⟩ 8 (by kernel_rfl) (by kernel_rfl) (by kernel_rfl) (by kernel_rfl)) ?_
  intro W base args ds gs before hval0 hW _ _
  have hval : ∀ (j : Nat) t v, Try.f4.params[j]? = some t → args[j]? = some v → Value.okWide Try.prog W .any base t v := hval0
  have hW' : DataW.Whole enc Try.prog Try.f4.params.toList Rows.fnExactRaiseCurveSpec.vars false W args.toList ds gs before := hW
  obtain ⟨p, q, hA0, hV, rfl, hfz, hnd⟩ := hW
  have hlt : ∀ x ∈ p, x.block < W.heap.size := fun x hx => hW'.lt x (by simp [hx])
  have hA : DataW.TrodAll enc Try.prog W 0 (fun _ => true) true Try.f4.params.toList args.toList ds p := hA0
  rw [Try.params4] at hA hval
  clear hA0 hval0
  obtain ⟨v0, v1, d0, d1, p0, p1, rfl, rfl, rfl, h0, h1⟩ := trodAll_two hA
  obtain ⟨rfl, rfl⟩ := trodVars_none hV
  obtain ⟨x0, n0, k0, l0, rfl, g0, m0, b0⟩ := open_pts_at (hval 0 22 v0 rfl rfl) h0
  obtain ⟨i1, rfl, rfl, rfl, wi1⟩ := open_int Try.underlying3 (hval 1 3 v1 rfl rfl) h1
  refine (law_RaiseCurve x0 n0 k0 l0 i1 W g0 m0 (wf_i64 wi1)).mono fun e W' ⟨he, hb⟩ => ?_
  subst he
  exact ⟨_, rfl, law_post rfl rfl (by kernel_rfl) hW' rfl rfl rfl hb⟩

theorem fnExactRaiseCurve_proved : Rows.FnExactRaiseCurveSaid :=
  OpenClaim.holds_of_wide 4 Try.f4 rfl rfl rfl rfl rfl rfl rfl ⟨rfl, rfl, rfl, rfl, rfl⟩ rfl rfl rfl rfl rfl (by kernel_rfl) Try.func4 (by kernel_rfl)
    (of_decide_eq_true (by kernel_rfl)) (by unfold Func.isWrapper; first | (rw [if_pos (by decide +kernel)]; kernel_rfl) | (rw [if_neg (by decide +kernel)]; exact ⟨rfl, rfl⟩))
    (fun os started H enc _ => fnExactRaiseCurve_lifted os started H enc)

end Go.Proofs.Ytpcbeapajlchgaa

/-
  The draws of curves: FlowAt, IsAbove.
-/
set_option linter.unusedVariables false
set_option linter.unusedSimpArgs false
namespace Go.Proofs.Ytpcbeapajlchgaa
open Go.RowKit

theorem raise_len (l : List Pt) (h : Int) : (raiseR l h).1.length ≤ l.length := by
  unfold raiseR
  split
  · simp [raised]
  · simp

set_option maxRecDepth 100000 in
set_option maxHeartbeats 8000000 in
theorem s_DrawFlowAt (a0 : Option Addr) (n0 c0 : Nat) (w : World) (h : BytesAt w a0 n0) :
    Calls Try.prog 43 #[.slice a0 n0 c0] w fun e w' => ∃ (a : Option Addr) (n c : Nat) (L : List Pt) (q : Int), e = .returned (.tuple #[.slice a n c, .int .i64 q]) ∧ (PAt w' a n L ∧ 1 ≤ n ∧ n ≤ 7) ∧ Below w.heap.size w w' := by
  have H := hid h
  clear h
  go_enter Try.func43, Try.ntmps43
  go_upto_region 2 with fail
  have C0 := hid (Cur.start (c := c0) (g := w.heap.size) H.out rfl)
  have B0 := hid (by go_grown : Below w.heap.size w (w.alloc (.cells #[.slice a0 n0 c0, .int .i64 0, .int .u64 0] 90)))
  have hz0 : w.heap.size < (w.alloc (.cells #[.slice a0 n0 c0, .int .i64 0, .int .u64 0] 90)).heap.size := by simp
  obtain ⟨g, hgg⟩ : ∃ g, w.heap.size = g := ⟨_, rfl⟩
  have hgw : w.heap.size ≤ g := by omega
  rw [hgg] at C0 hz0 ⊢
  generalize w.alloc (.cells #[.slice a0 n0 c0, .int .i64 0, .int .u64 0] 90) = w0 at *
  clear hgg
  go_wp2_with fail
  refine (c_curve g 0 _ C0.out (by omega)).mono ?_
  rintro e w1 ⟨⟨a, n, c, rfl, ⟨hn1, hn2⟩, L, hp, hne⟩, hc1, hg1⟩
  have HP := hid hp
  have HNE := hid (fun b o (e : a = some ⟨b, o, none⟩) => (by have := hne b o e; omega : b ≠ g))
  have HC := hid hc1
  have HB := hid (Below.grown B0.out hg1 B0.out.size (fun q e => by have := Option.some.inj e; omega) : Below w.heap.size w w1)
  clear hp hne hc1 hg1
  obtain ⟨b, o, rfl, hb, x0, x1⟩ := PAt.get HP.out 0 (by omega)
  have hbg : b ≠ g := HNE.out b o rfl
  have hlt1 := HC.out.lt
  have h0n : 0 < n := by omega
  simp only [Nat.zero_mul, Nat.add_zero] at x0 x1
  go_upto_region 3 with fail
  refine wp_region_noPanic ?_
  refine wp_region_held_drew (S := (fun w' => w'.cell? ⟨b, o + 1, none⟩ = some (.int .i64 (pt L 0).2))) (by kernel_rfl) (by exact x1) (fun hHeld => ?_)
  refine wpAnyH_take' (i := 0) (v := ?_) rfl (by kernel_rfl) (by kernel_rfl) (by kernel_rfl) (fun _ _ _ h => h) (Or.inl ⟨by rfl, ?_⟩) (by assumption) ?_
  rotate_left
  · (intro w' hSw; (try dsimp only at hSw); go_simp; all_goals with_reducible rfl)
  try simp only [Act.put, List.setIfInBounds_toArray, List.set_cons_zero, List.set_cons_succ]
  refine wpAnyH_take' (i := 1) (v := ?_) rfl (by kernel_rfl) (by kernel_rfl) (by kernel_rfl) (fun _ _ _ h => h) (Or.inl ⟨by rfl, ?_⟩) (by assumption) ?_
  rotate_left
  · (intro w' hSw; (try dsimp only at hSw); go_simp; all_goals with_reducible rfl)
  try simp only [Act.put, List.setIfInBounds_toArray, List.set_cons_zero, List.set_cons_succ]
  refine wpAnyH_take' (i := 2) (v := ?_) rfl (by kernel_rfl) (by kernel_rfl) (by kernel_rfl) (fun _ _ _ h => h) (Or.inl ⟨by rfl, ?_⟩) (by assumption) ?_
  rotate_left
  · (intro w' hSw; (try dsimp only at hSw); go_simp; all_goals with_reducible rfl)
  try simp only [Act.put, List.setIfInBounds_toArray, List.set_cons_zero, List.set_cons_succ]
  refine wpAnyH_take' (i := 3) (v := ?_) rfl (by kernel_rfl) (by kernel_rfl) (by kernel_rfl) (fun _ _ _ h => h) (Or.inl ⟨by rfl, ?_⟩) (by assumption) ?_
  rotate_left
  · (intro w' hSw; (try dsimp only at hSw); go_simp; all_goals with_reducible rfl)
  try simp only [Act.put, List.setIfInBounds_toArray, List.set_cons_zero, List.set_cons_succ]
  refine wpAnyH_take' (i := 4) (v := ?_) rfl (by kernel_rfl) (by kernel_rfl) (by kernel_rfl) (fun _ _ _ h => h) (Or.inl ⟨by rfl, ?_⟩) (by assumption) ?_
  rotate_left
  · (intro w' hSw; (try dsimp only at hSw); go_simp; all_goals with_reducible rfl)
  try simp only [Act.put, List.setIfInBounds_toArray, List.set_cons_zero, List.set_cons_succ]
  refine wpAnyH_take' (i := 5) (v := ?_) rfl (by kernel_rfl) (by kernel_rfl) (by kernel_rfl) (fun _ _ _ h => h) (Or.inl ⟨by rfl, ?_⟩) (by assumption) ?_
  rotate_left
  · (intro w' hSw; (try dsimp only at hSw); go_simp; all_goals with_reducible rfl)
  try simp only [Act.put, List.setIfInBounds_toArray, List.set_cons_zero, List.set_cons_succ]
  refine wpAnyH_ready (rs := [6]) (by kernel_rfl) (by simp) ?_
  refine allReadyH_cons' rfl (fun Kn hKn => ?_) AllReadyH.nil
  go_simp
  refine hKn.out _ _ ((Below.cell (by go_grown) (p := ⟨b, o + 1, none⟩) hb).trans x1) (fun hHeldN => ?_)
  clear hKn Kn hHeld
  have hHeld := hHeldN
  clear hHeldN
  try simp only [Act.put, List.setIfInBounds_toArray, List.set_cons_zero, List.set_cons_succ]
  refine wpAnyH_ready (rs := [7]) (by kernel_rfl) (by simp) ?_
  refine allReadyH_cons' rfl (fun Kn hKn => ?_) AllReadyH.nil
  go_simp
  go_at_call 76
  refine (c_among g _ w1.heap.size 8 8 [0, 1, 2, 4, 7, 10, 30, -1] _ (by exact HC.out.below (by go_grown)) (by omega) (by exact IntsAt.lit' w1 3 [0, 1, 2, 4, 7, 10, 30, -1] rfl rfl) (by have := HC.out.lt; omega) (by omega) (by omega)).mono ?_
  rintro e w2 ⟨⟨u, rfl, hu⟩, hc2, hg2⟩
  have HG := hid (grownBy_trans (grown_of_below (by go_grown) _) hg2 : w1.grownBy w2 (some g))
  have HP2 := hid (SAt.kept HP.out HG.out (fun b o e e2 => HNE.out b o e (Option.some.inj e2)))
  have HB2 := hid (Below.grown HB.out HG.out HB.out.size (fun q e => by have := Option.some.inj e; omega))
  clear hc2 hg2 hu HG x0 x1
  obtain ⟨b', o', e', hb, x0, x1⟩ := PAt.get HP2.out 0 (by omega)
  simp only [Option.some.injEq, Addr.mk.injEq, and_true] at e'
  obtain ⟨rfl, rfl⟩ := e'
  simp only [Nat.zero_mul, Nat.add_zero] at x0 x1
  refine hKn.out _ _ x1 (fun hHeldN => ?_)
  clear hKn Kn hHeld
  have hHeld := hHeldN
  clear hHeldN
  try simp only [Act.put, List.setIfInBounds_toArray, List.set_cons_zero, List.set_cons_succ]
  refine wpAnyH_take' (i := 8) (v := ?_) rfl (by kernel_rfl) (by kernel_rfl) (by kernel_rfl) (fun _ _ _ h => h) (Or.inl ⟨by rfl, ?_⟩) (by assumption) ?_
  rotate_left
  · (intro w' hSw; (try dsimp only at hSw); go_simp; all_goals with_reducible rfl)
  try simp only [Act.put, List.setIfInBounds_toArray, List.set_cons_zero, List.set_cons_succ]
  refine wpAnyH_take' (i := 9) (v := ?_) rfl (by kernel_rfl) (by kernel_rfl) (by kernel_rfl) (fun _ _ _ h => h) (Or.inl ⟨by rfl, ?_⟩) (by assumption) ?_
  rotate_left
  · (intro w' hSw; (try dsimp only at hSw); go_simp; all_goals with_reducible rfl)
  try simp only [Act.put, List.setIfInBounds_toArray, List.set_cons_zero, List.set_cons_succ]
  refine wpAnyH_take' (i := 10) (v := ?_) rfl (by kernel_rfl) (by kernel_rfl) (by kernel_rfl) (fun _ _ _ h => h) (Or.inl ⟨by rfl, ?_⟩) (by assumption) ?_
  rotate_left
  · (intro w' hSw; (try dsimp only at hSw); go_simp; all_goals with_reducible rfl)
  try simp only [Act.put, List.setIfInBounds_toArray, List.set_cons_zero, List.set_cons_succ]
  refine wpAnyH_done (by kernel_rfl) ?_ _
  refine NoPanic.normal ?_
  clear hHeld
  go_wp2
  go_ret2
  exact ⟨_, n, c, L, _, rfl, ⟨HP2.out, hn1, hn2⟩, HB2.out⟩

set_option maxRecDepth 100000 in
set_option maxHeartbeats 8000000 in
theorem s_DrawIsAbove (a0 : Option Addr) (n0 c0 : Nat) (w : World) (h : BytesAt w a0 n0) :
    Calls Try.prog 46 #[.slice a0 n0 c0] w fun e w' => ∃ (a : Option Addr) (n c : Nat) (L : List Pt) (a' : Option Addr) (n' c' : Nat) (L' : List Pt), e = .returned (.tuple #[.slice a n c, .slice a' n' c']) ∧ ((PAt w' a n L ∧ n ≤ 7) ∧ (PAt w' a' n' L' ∧ n' ≤ 7)) ∧ Below w.heap.size w w' := by
  have H := hid h
  clear h
  go_enter Try.func46, Try.ntmps46
  go_upto_region 2 with fail
  have C0 := hid (Cur.start (c := c0) (g := w.heap.size) H.out rfl)
  have B0 := hid (by go_grown : Below w.heap.size w (w.alloc (.cells #[.slice a0 n0 c0, .int .i64 0, .int .u64 0] 90)))
  have hz0 : w.heap.size < (w.alloc (.cells #[.slice a0 n0 c0, .int .i64 0, .int .u64 0] 90)).heap.size := by simp
  obtain ⟨g, hgg⟩ : ∃ g, w.heap.size = g := ⟨_, rfl⟩
  have hgw : w.heap.size ≤ g := by omega
  rw [hgg] at C0 hz0 ⊢
  generalize w.alloc (.cells #[.slice a0 n0 c0, .int .i64 0, .int .u64 0] 90) = w0 at *
  clear hgg
  go_wp2_with fail
  refine (c_curve g 0 _ C0.out (by omega)).mono ?_
  rintro e w1 ⟨⟨a, n, c, rfl, ⟨hn1, hn2⟩, L, hp, hne⟩, hc1, hg1⟩
  have HP := hid hp
  have HNE := hid (fun b o (e : a = some ⟨b, o, none⟩) => (by have := hne b o e; omega : b ≠ g))
  have HC := hid hc1
  have HB := hid (Below.grown B0.out hg1 B0.out.size (fun q e => by have := Option.some.inj e; omega) : Below w.heap.size w w1)
  clear hp hne hc1 hg1
  have hlt1 := HC.out.lt
  have hNL := HP.out.1
  go_wp2_with fail
  refine (c_pick g _ 3 _ HC.out (by omega) (by omega)).mono ?_
  rintro e w2 ⟨⟨v, rfl, hv0, hv1⟩, hc2, hg2⟩
  have HP2 := hid (SAt.kept HP.out hg2 (fun b o e e2 => HNE.out b o e (Option.some.inj e2)))
  have HB2 := hid (Below.grown HB.out hg2 HB.out.size (fun q e => by have := Option.some.inj e; omega))
  have HC2 := hid hc2
  have hz2 := hg2.size
  clear hc2 hg2
  go_wp2_with fail
  obtain ⟨R, told, hR⟩ : ∃ R told, raiseR L ((-v)) = (R, told) := ⟨_, _, rfl⟩
  have hr := raise_len L ((-v))
  rw [hR] at hr
  have hr7 : R.length ≤ 7 := by dsimp only at hr; omega
  clear hr
  refine (s_RaiseCurve _ _ _ _ _ _ HP2.out (by omega) R told hR).mono ?_
  rintro e w3 ⟨a', c', rfl, ho, hb3⟩
  have HP3 := hid (HP2.out.below hb3)
  have HB3 := hid (bstep HB2.out hb3)
  have HC3 := hid (HC2.out.below hb3)
  have HQ3 := hid (OwnS.at pf_len ho)
  have hz3 := hb3.size
  have hne3 : ∀ b o, a' = some ⟨b, o, none⟩ → b ≠ g := by
    rintro b o rfl
    have := (OwnS.lt ho b rfl).1
    omega
  have HNE3 := hid hne3
  clear hb3 ho hR hne3
  cases told
  · go_wp2_with fail
    refine (c_curve g _ _ HC3.out (by omega)).mono ?_
    rintro e w4 ⟨⟨a4, n4, c4, rfl, ⟨hn3, hn4⟩, L4, hp, hne⟩, hc4, hg4⟩
    have HP4 := hid (SAt.kept HP3.out hg4 (fun b o e e2 => HNE.out b o e (Option.some.inj e2)))
    have HB4 := hid (Below.grown HB3.out hg4 HB3.out.size (fun q e => by have := Option.some.inj e; omega))
    go_wp2
    go_ret2
    exact ⟨a, n, c, L, a4, n4, c4, L4, rfl, ⟨⟨HP4.out, hn2⟩, hp, hn4⟩, HB4.out⟩
  · go_wp2_with fail
    refine (c_one g _ 2 _ HC3.out (by omega) (by omega)).mono ?_
    rintro e w4 ⟨⟨q, rfl⟩, hc4, hg4⟩
    have HP4 := hid (SAt.kept HP3.out hg4 (fun b o e e2 => HNE.out b o e (Option.some.inj e2)))
    have HQ4 := hid (SAt.kept HQ3.out hg4 (fun b o e e2 => HNE3.out b o e (Option.some.inj e2)))
    have HB4 := hid (Below.grown HB3.out hg4 HB3.out.size (fun q e => by have := Option.some.inj e; omega))
    have HC4 := hid hc4
    have hz4 := hg4.size
    clear hc4 hg4
    cases q
    · go_wp2_with fail
      refine (c_curve g _ _ HC4.out (by omega)).mono ?_
      rintro e w5 ⟨⟨a5, n5, c5, rfl, ⟨hn3, hn4⟩, L5, hp, hne⟩, hc5, hg5⟩
      have HP5 := hid (SAt.kept HP4.out hg5 (fun b o e e2 => HNE.out b o e (Option.some.inj e2)))
      have HB5 := hid (Below.grown HB4.out hg5 HB4.out.size (fun q e => by have := Option.some.inj e; omega))
      go_wp2
      go_ret2
      exact ⟨a, n, c, L, a5, n5, c5, L5, rfl, ⟨⟨HP5.out, hn2⟩, hp, hn4⟩, HB5.out⟩
    · go_wp2
      go_ret2
      exact ⟨a, n, c, L, a', R.length, c', R, rfl, ⟨⟨HP4.out, hn2⟩, HQ4.out, hr7⟩, HB4.out⟩

end Go.Proofs.Ytpcbeapajlchgaa

