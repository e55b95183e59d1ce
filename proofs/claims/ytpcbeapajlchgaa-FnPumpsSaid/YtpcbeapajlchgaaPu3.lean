/-
  Texts of this claim, joined: CurC, CurH, Nums, CurveS.
-/
import Derived.Test.YtpcbeapajlchgaaPu1
import Derived.Test.YtpcbeapajlchgaaPu2
/-
  The draw of a curve.
-/
set_option linter.unusedVariables false
set_option linter.unusedSimpArgs false
namespace Go.Proofs.Ytpcbeapajlchgaa
open Go.RowKit

theorem SAt.kept {α : Type} [Inhabited α] {f : α → List Value} {s n : Nat} {w w' : World} {a : Option Addr} {l : List α} {row : Option Nat} (h : SAt f s w a n l) (hg : w.grownBy w' row) (hne : ∀ b o, a = some ⟨b, o, none⟩ → some b ≠ row) : SAt f s w' a n l :=
  ⟨h.1, fun k hk => by
    obtain ⟨b, o, h1, h2, h3⟩ := h.2 k hk
    refine ⟨b, o, h1, Nat.lt_of_lt_of_le h2 hg.size, fun j hj => ?_⟩
    rw [← h3 j hj]
    unfold World.cell?
    rw [hg.block b h2 (hne b o h1)]⟩
theorem SAt.take {α : Type} [Inhabited α] {f : α → List Value} {s n k : Nat} {w : World} {a : Option Addr} {l : List α} (h : SAt f s w a n l) (hk : k ≤ n) : SAt f s w a k (l.take k) :=
  ⟨by rw [List.length_take, h.1]; omega, fun j hj => by
    obtain ⟨b, o, h1, h2, h3⟩ := h.2 j (by omega)
    refine ⟨b, o, h1, h2, fun q hq => ?_⟩
    rw [h3 q hq, List.getElem?_take_of_lt hj]⟩
theorem p_cap {w : World} {B n c : Nat} {a : Option Addr} {l : List Pt} (h : OwnP w B (.slice a n c) l) : n ≤ c := by
  have hl := OwnS.len h
  rcases (show w.ownsRow _ _ _ _ _ _ from h).2 with ⟨h1, h0⟩ | ⟨g, cap, cur, h1, hB, hg, hnc, -⟩
  · simp only [Value.slice.injEq] at h1
    omega
  · simp only [Value.slice.injEq] at h1
    omega
theorem ownP_ne {w : World} {B g : Nat} {v : Value} {l : List Pt} (h : OwnP w B v l) (hg : g < B) : v.ownBlock = none ∨ v.ownBlock ≠ some g := by
  cases e : v.ownBlock with
  | none => exact .inl rfl
  | some k => exact .inr (fun e2 => by have h1 := (OwnS.lt h k e).1; have := Option.some.inj e2; omega)

/-- A curve in the making, and the cursor. -/
structure CB (w W : World) (g K : Nat) (a : Option Addr) (n c : Nat) (L : List Pt) : Prop where
  cur : Cur W g K
  gro : w.grownBy W (some g)
  own : OwnP W w.heap.size (.slice a n c) L
  gb : g < w.heap.size
section
variable {w W W' : World} {g K : Nat} {a : Option Addr} {n c : Nat} {L : List Pt}
theorem CB.step {K' : Nat} (h : CB w W g K a n c L) (hc : Cur W' g K') (hg : W.grownBy W' (some g)) : CB w W' g K' a n c L := ⟨hc, grownBy_trans h.gro hg, OwnS.kept h.own hg (ownP_ne h.own h.gb), h.gb⟩
theorem CB.below (h : CB w W g K a n c L) (hb : Below W.heap.size W W') : CB w W' g K a n c L := h.step (h.cur.below hb) (grown_of_below hb _)
theorem CB.le {K' : Nat} (h : CB w W g K a n c L) (hk : K ≤ K') : CB w W g K' a n c L := ⟨h.cur.le hk, h.gro, h.own, h.gb⟩
theorem CB.put {a' : Option Addr} {n' c' : Nat} {L' : List Pt} (h : CB w W g K a n c L) (hg : W.grownBy W' (Value.ownBlock (.slice a n c))) (ho : OwnP W' w.heap.size (.slice a' n' c') L') : CB w W' g K a' n' c' L' :=
  ⟨h.cur.kept hg (fun k e => by have := (OwnS.lt h.own k e).1; have := h.gb; omega), grown_step h.gro hg (fun k e => .inl (OwnS.lt h.own k e).1), ho, h.gb⟩
theorem CB.other {p j : Nat} {u : Value} (h : CB w W g K a n c L) (hp : w.heap.size ≤ p) (hr : ∀ k, Value.ownBlock (.slice a n c) = some k → k ≠ p) : CB w (W.setCell ⟨p, j, none⟩ u) g K a n c L := by
  refine ⟨h.cur.set (by have := h.gb; omega), grown_set h.gro hp, OwnS.kept h.own (grown_setCell W p j u) ?_, h.gb⟩
  cases e : Value.ownBlock (.slice a n c) with
  | none => exact .inl rfl
  | some k => exact .inr (fun e2 => hr k e (Option.some.inj e2))
theorem CB.new (h : CB w W g K a n c L) {b o : Nat} (e : a = some ⟨b, o, none⟩) : w.heap.size ≤ b := by
  subst e
  exact (OwnS.lt h.own b rfl).1
end

set_option maxRecDepth 100000 in
set_option maxHeartbeats 8000000 in
theorem c_curve (g K : Nat) (w : World) (h : Cur w g K) (hK : K ≤ 100000000) :
    Calls Try.prog 75 #[.pointer (some ⟨g, 0, none⟩)] w fun e w' => (∃ (a : Option Addr) (n c : Nat), e = .returned (.slice a n c) ∧ (1 ≤ n ∧ n ≤ 7) ∧ ∃ L : List Pt, PAt w' a n L ∧ ∀ b o, a = some ⟨b, o, none⟩ → w.heap.size ≤ b) ∧ Cur w' g (K + 100) ∧ w.grownBy w' (some g) := by
  obtain ⟨i0, hi, hz0, hz1, hz2⟩ := info_parts Try.infoCurvePoint
  have HI := hid hi
  have HZ := hid hz0
  have HZ1 := hid hz1
  have HZ2 := hid hz2
  clear hi hz0 hz1 hz2
  have H := hid h
  have hgz := h.lt
  clear h
  go_enter Try.func75, Try.ntmps75
  go_upto_region 2 with fail
  have S0 := hid (show CB w (w.alloc (.cells #[] 52)) g K (some ⟨w.heap.size, 0, none⟩) 0 0 [] from ⟨H.out.below (by go_grown), grown_of_below (by go_grown) _, OwnS.lit0 w, hgz⟩)
  generalize w.alloc (.cells #[] 52) = w0 at *
  go_wp2_with fail
  refine (c_among g _ w0.heap.size 3 3 [50, 100, 1000] _ (S0.out.cur.below (by go_grown)) (by omega) (IntsAt.lit' _ 3 [50, 100, 1000] rfl rfl) (by have := S0.out.cur.lt; omega) (by omega) (by omega)).mono ?_
  rintro e w1 ⟨⟨u, rfl, hu⟩, hc1, hg1⟩
  have S1 := hid ((S0.out.below (by go_grown)).step hc1 hg1)
  clear hc1 hg1 hu S0
  go_wp2_with fail
  refine (c_pick g _ 4 _ S1.out.cur (by omega) (by omega)).mono ?_
  rintro e w2 ⟨⟨v, rfl, hv0, hv1⟩, hc2, hg2⟩
  have S2 := hid (S1.out.step hc2 hg2)
  clear hc2 hg2 S1
  obtain ⟨T, hT⟩ : ∃ T : Nat, 2 + v = T := ⟨(2 + v).toNat, by omega⟩
  have hT1 : 2 ≤ T ∧ T ≤ 5 := by omega
  have hwT : IntKind.i64.wrap (2 + v) = (T : Int) := by rw [IntWalk.i64_in _ (by omega)]; exact hT
  clear hv0 hv1 hT
  go_wp2
  go_loopg [3, 4, 5, 6] T (fun gm o x y i wr => ∃ (k : Nat) (a' : Option Addr) (c' : Nat) (L : List Pt) (p q : Int), k ≤ T ∧ gm = T - k ∧ o = .slice a' k c' ∧ x = .int .i64 p ∧ y = .int .i64 q ∧ i = .int .i64 ((T : Int) - (k : Int)) ∧ Hid (CB w wr g (K + 4 + 4 * k) a' k c' L))
  case atStart => exact ⟨0, _, 0, [], 0, u, Nat.zero_le _, rfl, rfl, rfl, rfl, by simp, hid (S2.out.le (by omega))⟩
  case round =>
    obtain ⟨k, a', c', L, p, q, hk, rfl, rfl, rfl, rfl, rfl, hh⟩ := hrel
    clear S2
    have hgz2 := hh.out.gb
    by_cases hlt : k < T
    · have hlti : (0 : Int) < (T : Int) - (k : Int) := by omega
      have hll := OwnS.len hh.out.own
      have hsz := hh.out.gro.size
      have hwk : IntKind.i64.wrap ((T : Int) - (k : Int) - 1) = (T : Int) - ((k + 1 : Nat) : Int) := by rw [IntWalk.i64_in _ (by omega)]; omega
      go_wp2_with (at_builtin; refine wp_append_s _ rfl _ _ 25 rfl 52 i0 (.agg #[.int .i64 0, .int .i64 0]) 16 Try.underlying25 HI.out HZ.out HZ1.out HZ2.out rfl (by decide) pf_len pf_one w.heap.size _ L rfl (OwnS.alloc hh.out.own _) _ 1 1 [(p, q)] rfl (SAt.single (e := 52) _ (p, q) pf_len) (k + 1) (by omega) (by omega) (by omega) (by simp; omega) ?_)
      intro a2 c2 w5 hown hgrow hblk
      have S5 := hid (hh.out.put (grownBy_trans (grown_of_below (by go_grown) _) hgrow) hown)
      clear hown hgrow hblk hh hll
      go_wp2_with fail
      refine (c_among g _ w5.heap.size 4 4 [1, 5, 10, 30] _ (S5.out.cur.below (by go_grown)) (by omega) (IntsAt.lit' _ 3 [1, 5, 10, 30] rfl rfl) (by have := S5.out.cur.lt; omega) (by omega) (by omega)).mono ?_
      rintro e w6 ⟨⟨v1, rfl, hv1⟩, hc6, hg6⟩
      have S6 := hid ((S5.out.below (by go_grown)).step hc6 hg6)
      clear hc6 hg6 hv1 S5
      go_wp2_with fail
      refine (c_among g _ w6.heap.size 3 3 [1, 3, 7] _ (S6.out.cur.below (by go_grown)) (by omega) (IntsAt.lit' _ 3 [1, 3, 7] rfl rfl) (by have := S6.out.cur.lt; omega) (by omega) (by omega)).mono ?_
      rintro e w7 ⟨⟨v2, rfl, hv2⟩, hc7, hg7⟩
      have S7 := hid ((S6.out.below (by go_grown)).step hc7 hg7)
      clear hc7 hg7 hv2 S6
      go_wp2
      go_roundg (T - (k + 1))
      case rel => exact ⟨k + 1, _, _, _, _, _, by omega, rfl, rfl, rfl, rfl, rfl, hid (S7.out.le (by omega))⟩
      case measure => omega
    · have hlti : ¬ (0 : Int) < (T : Int) - (k : Int) := by omega
      obtain rfl : T = k := by omega
      go_wp2_with fail
      refine (c_pick g _ T _ hh.out.cur (by omega) (by omega)).mono ?_
      rintro e w5 ⟨⟨v, rfl, v0, v1⟩, hc5, hg5⟩
      obtain ⟨i, rfl⟩ : ∃ i : Nat, v = i := ⟨v.toNat, by omega⟩
      have S5 := hid (hh.out.step hc5 hg5)
      have hi : i < T := by omega
      have hii : (i : Int) < (T : Int) := by omega
      have hi0 : (0 : Int) ≤ (i : Int) := by omega
      clear hc5 hg5 v1 hh
      obtain ⟨g1, o1, e1, hg1, x0, x1⟩ := PAt.get (OwnS.at pf_len S5.out.own) i hi
      subst e1
      obtain rfl : o1 = 0 := by
        rcases (show w5.ownsRow _ _ _ _ _ _ from S5.out.own).2 with ⟨h1, h0⟩ | ⟨g, cap, cur, h1, -⟩
        · simp at h1
        · simp only [Value.slice.injEq, Option.some.injEq, Addr.mk.injEq] at h1
          exact h1.1.2.1
      simp only [Nat.zero_add] at x0 x1
      go_upto_region 11 with fail
      have S6 := hid (S5.out.below (by go_grown : Below w5.heap.size w5 (w5.alloc (.cells #[.int .i64 (pt L i).1, .int .i64 (pt L i).2] 52))))
      have P6 := hid (heap_alloc_new w5 (.cells #[.int .i64 (pt L i).1, .int .i64 (pt L i).2] 52))
      have hpw : w.heap.size ≤ w5.heap.size := S5.out.gro.size
      have hpg : ∀ k, Value.ownBlock (.slice (some ⟨g1, 0, none⟩) T c') = some k → k ≠ w5.heap.size := fun k e => by have := (OwnS.lt S5.out.own k e).2; omega
      have hg15 : g1 ≠ w5.heap.size := by omega
      have hp6 : w5.heap.size < (w5.alloc (.cells #[.int .i64 (pt L i).1, .int .i64 (pt L i).2] 52)).heap.size := by simp
      obtain ⟨A, hA⟩ : ∃ A, (pt L i).1 = A := ⟨_, rfl⟩
      obtain ⟨B, hB⟩ : ∃ B, (pt L i).2 = B := ⟨_, rfl⟩
      rw [hA, hB] at S6 P6 hp6 ⊢
      obtain ⟨pb, hpb⟩ : ∃ pb, w5.heap.size = pb := ⟨_, rfl⟩
      rw [hpb] at P6 hpw hpg hg15 hp6 ⊢
      generalize w5.alloc (.cells #[.int .i64 A, .int .i64 B] 52) = w6 at *
      clear x0 x1 S5 hA hB hg1
      have hcap := p_cap S6.out.own
      go_wp2_with fail
      refine (c_pick g _ 30 _ S6.out.cur (by omega) (by omega)).mono ?_
      rintro e w7 ⟨⟨v, rfl, v0, v1⟩, hc7, hg7⟩
      have S7 := hid (S6.out.step hc7 hg7)
      have P7 := hid ((hg7.block pb hp6 (fun e => by have := Option.some.inj e; omega)).trans P6.out)
      have hp7 : pb < w7.heap.size := by have := hg7.size; omega
      clear hc7 hg7 S6 P6 hp6
      by_cases e0 : v = 0
      · subst e0
        clear v0 v1
        go_wp2_with fail
        refine (c_among g _ w7.heap.size 4 4 [-1, 1, 1000, 1001] _ (S7.out.cur.below (by go_grown)) (by omega) (IntsAt.lit' _ 3 [-1, 1, 1000, 1001] rfl rfl) (by have := S7.out.cur.lt; omega) (by omega) (by omega)).mono ?_
        rintro e w8 ⟨⟨u8, rfl, hu⟩, hc8, hg8⟩
        have S8 := hid ((S7.out.below (by go_grown)).step hc8 hg8)
        have P8 := hid (((hg8.block pb (by simp; omega) (fun e => by have := Option.some.inj e; have := S7.out.gb; omega)).trans (Below.heap_alloc _ _ _ hp7)).trans P7.out)
        clear hc8 hg8 hu
        obtain ⟨y0, y1⟩ := two_of P8.out
        have hfp := fun j => frozen_of_row w8 pb j _ _ P8.out
        have hp8 : pb < w8.heap.size := (Array.getElem?_eq_some_iff.1 P8.out).1
        have S9 := hid (S8.out.other (p := pb) (j := 0) (u := .int .i64 u8) hpw hpg)
        have P9 := heap_setCell_same _ _ 0 _ _ (.int .i64 u8) P8.out
        simp only [List.setIfInBounds_toArray, List.set_cons_zero, List.set_cons_succ] at P9
        have P9 := hid P9
        go_upto_region 24 with fail
        generalize w8.setCell ⟨pb, 0, none⟩ (.int .i64 u8) = w9 at *
        clear y0 y1 hfp S8 P8 S7 P7
        obtain ⟨y0, y1⟩ := two_of P9.out
        obtain ⟨_, _, e1, hg1, x0, x1⟩ := PAt.get (OwnS.at pf_len S9.out.own) i hi
        cases e1
        simp only [Nat.zero_add] at x0 x1
        have hf := fun j => OwnS.frozen (j := j) S9.out.own
        have hpW : pb < (w9).heap.size := (Array.getElem?_eq_some_iff.1 P9.out).1
        have hgg := S9.out.new rfl
        have hLi : i < L.length := by have := OwnS.len S9.out.own; omega
        have O1 := hid (OwnS.set pf_len (by decide) S9.out.own hi (j := 0) (by decide) (.int .i64 u8) (u8, (L[i]?.getD default).2) rfl).1
        have O2 := hid (OwnS.set pf_len (by decide) O1.out hi (j := 1) (by decide) (.int .i64 B) (u8, B) (by rw [show (L.set i (u8, (L[i]?.getD default).2))[i]?.getD default = (u8, (L[i]?.getD default).2) by simp [hLi]]; rfl)).1
        go_wp2
        go_ret
        exact ⟨⟨_, T, _, rfl, ⟨by omega, by omega⟩, _, OwnS.at pf_len O2.out, fun b o e => S9.out.new e⟩, (((S9.out.cur.le (by omega)).set (by have := S9.out.gb; omega)).set (by have := S9.out.gb; omega)), grown_set (grown_set S9.out.gro (by omega)) (by omega)⟩
      have n0 : (v == 0) = false := by simpa using e0
      clear e0
      by_cases e1 : v = 1
      · subst e1
        clear v0 v1
        go_wp2_with fail
        refine (c_among g _ w7.heap.size 3 3 [-1, 0, 1001] _ (S7.out.cur.below (by go_grown)) (by omega) (IntsAt.lit' _ 3 [-1, 0, 1001] rfl rfl) (by have := S7.out.cur.lt; omega) (by omega) (by omega)).mono ?_
        rintro e w8 ⟨⟨u8, rfl, hu⟩, hc8, hg8⟩
        have S8 := hid ((S7.out.below (by go_grown)).step hc8 hg8)
        have P8 := hid (((hg8.block pb (by simp; omega) (fun e => by have := Option.some.inj e; have := S7.out.gb; omega)).trans (Below.heap_alloc _ _ _ hp7)).trans P7.out)
        clear hc8 hg8 hu
        obtain ⟨y0, y1⟩ := two_of P8.out
        have hfp := fun j => frozen_of_row w8 pb j _ _ P8.out
        have hp8 : pb < w8.heap.size := (Array.getElem?_eq_some_iff.1 P8.out).1
        have S9 := hid (S8.out.other (p := pb) (j := 1) (u := .int .i64 u8) hpw hpg)
        have P9 := heap_setCell_same _ _ 1 _ _ (.int .i64 u8) P8.out
        simp only [List.setIfInBounds_toArray, List.set_cons_zero, List.set_cons_succ] at P9
        have P9 := hid P9
        go_upto_region 24 with fail
        generalize w8.setCell ⟨pb, 1, none⟩ (.int .i64 u8) = w9 at *
        clear y0 y1 hfp S8 P8 S7 P7
        obtain ⟨y0, y1⟩ := two_of P9.out
        obtain ⟨_, _, e1, hg1, x0, x1⟩ := PAt.get (OwnS.at pf_len S9.out.own) i hi
        cases e1
        simp only [Nat.zero_add] at x0 x1
        have hf := fun j => OwnS.frozen (j := j) S9.out.own
        have hpW : pb < (w9).heap.size := (Array.getElem?_eq_some_iff.1 P9.out).1
        have hgg := S9.out.new rfl
        have hLi : i < L.length := by have := OwnS.len S9.out.own; omega
        have O1 := hid (OwnS.set pf_len (by decide) S9.out.own hi (j := 0) (by decide) (.int .i64 A) (A, (L[i]?.getD default).2) rfl).1
        have O2 := hid (OwnS.set pf_len (by decide) O1.out hi (j := 1) (by decide) (.int .i64 u8) (A, u8) (by rw [show (L.set i (A, (L[i]?.getD default).2))[i]?.getD default = (A, (L[i]?.getD default).2) by simp [hLi]]; rfl)).1
        go_wp2
        go_ret
        exact ⟨⟨_, T, _, rfl, ⟨by omega, by omega⟩, _, OwnS.at pf_len O2.out, fun b o e => S9.out.new e⟩, (((S9.out.cur.le (by omega)).set (by have := S9.out.gb; omega)).set (by have := S9.out.gb; omega)), grown_set (grown_set S9.out.gro (by omega)) (by omega)⟩
      have n1 : (v == 1) = false := by simpa using e1
      clear e1
      by_cases e2 : v = 2
      · subst e2
        have h1c : 1 ≤ c' := by omega
        have h1ci : (1 : Int) ≤ (c' : Int) := by omega
        go_wp2
        go_ret
        exact ⟨⟨_, 1, _, rfl, ⟨by omega, by omega⟩, _, SAt.take (OwnS.at pf_len S7.out.own) (by omega), fun b o e => S7.out.new e⟩, S7.out.cur.le (by omega), S7.out.gro⟩
      have n2 : (v == 2) = false := by simpa using e2
      clear e2
      by_cases e3 : v = 3
      · subst e3
        clear v0 v1 P7 hpg
        go_wp2
        go_loopg [3, 4, 5] (7 - T) (fun gm o x y wr => ∃ (k : Nat) (a' : Option Addr) (c' : Nat) (L : List Pt) (p q : Int), 2 ≤ k ∧ k ≤ 7 ∧ gm = 7 - k ∧ o = .slice a' k c' ∧ x = .int .i64 p ∧ y = .int .i64 q ∧ Hid (CB w wr g (K + 40 + 2 * k) a' k c' L))
        case atStart => exact ⟨T, _, _, L, p, q, by omega, by omega, rfl, rfl, rfl, rfl, hid (S7.out.le (by omega))⟩
        case round =>
          clear S7
          obtain ⟨k, a', c', L, p, q, hk2, hk7, rfl, rfl, rfl, rfl, hh⟩ := hrel
          go_wp2_with fail
          refine (c_pick g _ 2 _ hh.out.cur (by omega) (by omega)).mono ?_
          rintro e w8 ⟨⟨v, rfl, v0, v1⟩, hc8, hg8⟩
          have S8 := hid (hh.out.step hc8 hg8)
          have hw6 := IntWalk.i64_in (6 + v) (by omega)
          clear hc8 hg8 hh
          by_cases hlt : (k : Int) < 6 + v
          · have hll := OwnS.len S8.out.own
            have hsz := S8.out.gro.size
            go_wp2_with (at_builtin; refine wp_append_s _ rfl _ _ 25 rfl 52 i0 (.agg #[.int .i64 0, .int .i64 0]) 16 Try.underlying25 HI.out HZ.out HZ1.out HZ2.out rfl (by decide) pf_len pf_one w.heap.size _ L rfl (OwnS.alloc S8.out.own _) _ 1 1 [(p, q)] rfl (SAt.single (e := 52) _ (p, q) pf_len) (k + 1) (by omega) (by omega) (by omega) (by simp; omega) ?_)
            intro a2 c2 w9 hown hgrow hblk
            have S9 := hid (S8.out.put (grownBy_trans (grown_of_below (by go_grown) _) hgrow) hown)
            clear hown hgrow hblk hll S8
            go_wp2
            go_roundg (7 - (k + 1))
            case rel => exact ⟨k + 1, _, _, _, _, _, by omega, by omega, rfl, rfl, rfl, rfl, hid (S9.out.le (by omega))⟩
            case measure => omega
          · go_wp2
            go_ret
            exact ⟨⟨_, k, _, rfl, ⟨by omega, by omega⟩, _, OwnS.at pf_len S8.out.own, fun b o e => S8.out.new e⟩, S8.out.cur.le (by omega), S8.out.gro⟩
      have n3 : (v == 3) = false := by simpa using e3
      clear e3 v0 v1
      go_upto_region 24 with fail
      obtain ⟨y0, y1⟩ := two_of P7.out
      obtain ⟨_, _, e1, hg1, x0, x1⟩ := PAt.get (OwnS.at pf_len S7.out.own) i hi
      cases e1
      simp only [Nat.zero_add] at x0 x1
      have hf := fun j => OwnS.frozen (j := j) S7.out.own
      have hpW : pb < (w7).heap.size := (Array.getElem?_eq_some_iff.1 P7.out).1
      have hgg := S7.out.new rfl
      have hLi : i < L.length := by have := OwnS.len S7.out.own; omega
      have O1 := hid (OwnS.set pf_len (by decide) S7.out.own hi (j := 0) (by decide) (.int .i64 A) (A, (L[i]?.getD default).2) rfl).1
      have O2 := hid (OwnS.set pf_len (by decide) O1.out hi (j := 1) (by decide) (.int .i64 B) (A, B) (by rw [show (L.set i (A, (L[i]?.getD default).2))[i]?.getD default = (A, (L[i]?.getD default).2) by simp [hLi]]; rfl)).1
      go_wp2
      go_ret
      exact ⟨⟨_, T, _, rfl, ⟨by omega, by omega⟩, _, OwnS.at pf_len O2.out, fun b o e => S7.out.new e⟩, (((S7.out.cur.le (by omega)).set (by have := S7.out.gb; omega)).set (by have := S7.out.gb; omega)), grown_set (grown_set S7.out.gro (by omega)) (by omega)⟩

end Go.Proofs.Ytpcbeapajlchgaa

/-
  Draws out of a list that is cut short by a draw.
-/
set_option linter.unusedVariables false
set_option linter.unusedSimpArgs false
namespace Go.Proofs.Ytpcbeapajlchgaa
open Go.RowKit

theorem ints_take {w : World} {a : Option Addr} {n k : Nat} {l : List Int} (h : IntsAt w a n l) (hk : k ≤ n) : IntsAt w a k (l.take k) :=
  ⟨by rw [List.length_take, h.1]; omega, fun j hj => by
    obtain ⟨b, o, h1, h2, h3⟩ := h.2 j (by omega)
    exact ⟨b, o, h1, h2, by rw [h3, List.getElem?_take_of_lt hj]⟩⟩

set_option maxHeartbeats 4000000 in
theorem c_near7 (g K : Nat) (w : World) (h : Cur w g K) (hK : K ≤ 100000000000) :
    Calls Try.prog 79 #[.pointer (some ⟨g, 0, none⟩)] w fun e w' => (∃ v : Int, e = .returned (.int .i64 v)) ∧ Cur w' g (K + 4) ∧ w.grownBy w' (some g) := by
  have H := hid h
  have hgz := h.lt
  clear h
  go_enter Try.func79, Try.ntmps79
  go_wp2_with fail
  refine (c_pick g K 24 _ (H.out.below (by go_grown)) (by omega) (by omega)).mono ?_
  rintro e w5 ⟨⟨v, rfl, hv0, hv1⟩, hc5, hg5⟩
  have I0 : IntsAt (w.alloc _) (some ⟨w.heap.size, 0, none⟩) 15 [0, 1, 5, 10, 17, 40, 45, 49, 90, 97, 100, 993, 1000, -1, 1001] := IntsAt.lit' w 3 [0, 1, 5, 10, 17, 40, 45, 49, 90, 97, 100, 993, 1000, -1, 1001] rfl rfl
  have I5 := hid (I0.kept hg5 (fun b o e e2 => by simp only [Option.some.injEq, Addr.mk.injEq] at e; have := Option.some.inj e2; omega))
  have W5 := hid (show Cur w5 g (K + 2) ∧ w.grownBy w5 (some g) from ⟨hc5, grownBy_trans (grown_of_below (by go_grown) _) hg5⟩)
  obtain ⟨k, hk⟩ : ∃ k : Nat, 13 + v.tdiv 11 = (k : Int) := ⟨(13 + v.tdiv 11).toNat, by rw [Int.tdiv_eq_ediv_of_nonneg hv0]; omega⟩
  have hk2 : 13 ≤ k ∧ k ≤ 15 := by rw [Int.tdiv_eq_ediv_of_nonneg hv0] at hk; omega
  have hw1 : IntKind.i64.wrap (v.tdiv 11) = v.tdiv 11 := IntWalk.i64_in _ (by rw [Int.tdiv_eq_ediv_of_nonneg hv0]; omega)
  have hw2 : IntKind.i64.wrap (13 + v.tdiv 11) = (k : Int) := by rw [hk]; exact IntWalk.i64_in _ (by omega)
  have hk3 : (k : Int) ≤ 15 := by omega
  clear hc5 hg5 hv0 hv1 hk I0
  go_wp2_with fail
  refine (c_among g _ w.heap.size k _ ([0, 1, 5, 10, 17, 40, 45, 49, 90, 97, 100, 993, 1000, -1, 1001].take k) _ W5.out.1 (by omega) (ints_take I5.out (by omega)) (by omega) (by omega) (by omega)).mono ?_
  rintro e w6 ⟨⟨u, rfl, hu⟩, hc6, hg6⟩
  have W6 := hid (show Cur w6 g (K + 4) ∧ w.grownBy w6 (some g) from ⟨hc6, grownBy_trans W5.out.2 hg6⟩)
  clear hc6 hg6 hu
  go_wp2
  go_ret
  exact ⟨⟨_, rfl⟩, W6.out.1, W6.out.2⟩

end Go.Proofs.Ytpcbeapajlchgaa

/-
  Numbers: absolute values, the greatest common divisor, fractions in lowest terms.
-/
set_option linter.unusedVariables false
set_option linter.unusedSimpArgs false
namespace Go.Proofs.Ytpcbeapajlchgaa
open Go.RowKit

/-- A number that products are taken of. -/
abbrev fine (x : Int) : Prop := -1152921504606846976 ≤ x ∧ x ≤ 1152921504606846976

theorem i_absOf (x : Int) (w : World) (h : -4611686018427387904 ≤ x ∧ x ≤ 4611686018427387904) : Calls Try.prog 92 #[.int .i64 x] w fun e w' => e = .returned (.int .i64 (max x (-x))) ∧ w = w' := by
  go_enter Try.func92, Try.ntmps92
  go_wp2
  all_goals go_ret
  all_goals exact ⟨ret_int (by omega), rfl⟩
theorem s_l1Most (a b : Int) (w : World) : Calls Try.prog 84 #[.int .i64 a, .int .i64 b] w fun e w' => e = .returned (.int .i64 (max a b)) ∧ w = w' := by
  by_cases h : a > b
  · go_enter Try.func84, Try.ntmps84
    go_wp2
    go_ret
    exact ⟨ret_int (by omega), rfl⟩
  · go_enter Try.func84, Try.ntmps84
    go_wp2
    go_ret
    exact ⟨ret_int (by omega), rfl⟩
theorem s_l1Least (a b : Int) (w : World) : Calls Try.prog 69 #[.int .i64 a, .int .i64 b] w fun e w' => e = .returned (.int .i64 (min a b)) ∧ w = w' := by
  by_cases h : a < b
  · go_enter Try.func69, Try.ntmps69
    go_wp2
    go_ret
    exact ⟨ret_int (by omega), rfl⟩
  · go_enter Try.func69, Try.ntmps69
    go_wp2
    go_ret
    exact ⟨ret_int (by omega), rfl⟩

/-- The greatest common divisor. -/
def gd (a b : Int) : Int := (Nat.gcd a.natAbs b.natAbs : Nat)
theorem max_abs (x : Int) : max x (-x) = (x.natAbs : Int) := by omega
theorem gd_pos {a b : Int} (h : 0 < b) : 0 < gd a b := by
  unfold gd
  have : 0 < Nat.gcd a.natAbs b.natAbs := Nat.gcd_pos_of_pos_right _ (by omega)
  omega
theorem gcd_step (x y : Nat) (h : y ≠ 0) : Nat.gcd y (x % y) = Nat.gcd x y := by
  rw [Nat.gcd_comm x y, Nat.gcd_rec y x, Nat.gcd_comm]

set_option maxHeartbeats 1000000 in
theorem i_gcdOf (a b : Int) (w : World) (ha : fine a) (hb : fine b) : Calls Try.prog 89 #[.int .i64 a, .int .i64 b] w fun e w' => e = .returned (.int .i64 (gd a b)) ∧ ∃ m, w' = w.drewN m := by
  have ea := max_abs a
  have eb := max_abs b
  have la : a.natAbs ≤ 1152921504606846976 := by omega
  have lb : b.natAbs ≤ 1152921504606846976 := by omega
  go_enter Try.func89, Try.ntmps89
  go_wp2_with fail
  refine (i_absOf _ _ (by omega)).mono ?_
  rintro e _ ⟨rfl, rfl⟩
  go_wp2_with fail
  refine (i_absOf _ _ (by omega)).mono ?_
  rintro e _ ⟨rfl, rfl⟩
  go_wp2
  go_loopw [0, 1] (fun s0 s1 wr => ∃ x y t : Nat, s0 = .int .i64 x ∧ s1 = .int .i64 y ∧ x ≤ 1152921504606846976 ∧ y ≤ 1152921504606846976 ∧ Hid (Nat.gcd x y = Nat.gcd a.natAbs b.natAbs) ∧ wr = w.drewN t) (fun _ s1 _ => (intOf s1).toNat)
  case atStart => exact ⟨a.natAbs, b.natAbs, 0, rfl, rfl, la, lb, rfl, rfl⟩
  case round =>
    obtain ⟨x, y, t, rfl, rfl, hx, hy, hg, rfl⟩ := hrel
    by_cases h0 : y = 0
    · subst h0
      go_wp2
      go_ret
      refine ⟨ret_int ?_, t, rfl⟩
      rw [gd, ← hg.out, Nat.gcd_zero_right]
    · go_wp2
      go_quiet (fail)
      go_wp2
      go_roundw
      case rel => exact ⟨y, x % y, t + nq, rfl, by rw [Int.natCast_emod], hy, by have := Nat.mod_lt x (Nat.pos_of_ne_zero h0); omega, by rw [gcd_step _ _ h0]; exact hg, by rw [World.drewN_drewN]⟩
      case measure =>
        have := Nat.mod_lt x (Nat.pos_of_ne_zero h0)
        simp only [intOf]
        rw [← Int.natCast_emod, Int.toNat_natCast, Int.toNat_natCast]
        exact this

set_option maxHeartbeats 1000000 in
theorem s_l3Common (a b : Int) (w : World) (ha : fine a) (hb : fine b) : Calls Try.prog 88 #[.int .i64 a, .int .i64 b] w fun e w' => e = .returned (.int .i64 (gd a b)) ∧ ∃ m, w' = w.drewN m := by
  have ea := max_abs a
  have eb := max_abs b
  have la : a.natAbs ≤ 1152921504606846976 := by omega
  have lb : b.natAbs ≤ 1152921504606846976 := by omega
  go_enter Try.func88, Try.ntmps88
  go_wp2_with fail
  refine (s_l1Most _ _ _).mono ?_
  rintro e _ ⟨rfl, rfl⟩
  go_wp2_with fail
  refine (s_l1Most _ _ _).mono ?_
  rintro e _ ⟨rfl, rfl⟩
  go_wp2
  go_loopw [0, 1] (fun s0 s1 wr => ∃ x y t : Nat, s0 = .int .i64 x ∧ s1 = .int .i64 y ∧ x ≤ 1152921504606846976 ∧ y ≤ 1152921504606846976 ∧ Hid (Nat.gcd x y = Nat.gcd a.natAbs b.natAbs) ∧ wr = w.drewN t) (fun _ s1 _ => (intOf s1).toNat)
  case atStart => exact ⟨a.natAbs, b.natAbs, 0, rfl, rfl, la, lb, rfl, rfl⟩
  case round =>
    obtain ⟨x, y, t, rfl, rfl, hx, hy, hg, rfl⟩ := hrel
    by_cases h0 : y = 0
    · subst h0
      go_wp2
      go_ret
      refine ⟨ret_int ?_, t, rfl⟩
      rw [gd, ← hg.out, Nat.gcd_zero_right]
    · go_wp2
      go_roundw
      case rel => exact ⟨y, x % y, t, rfl, by rw [Int.natCast_emod], hy, by have := Nat.mod_lt x (Nat.pos_of_ne_zero h0); omega, by rw [gcd_step _ _ h0]; exact hg, rfl⟩
      case measure =>
        have := Nat.mod_lt x (Nat.pos_of_ne_zero h0)
        simp only [intOf]
        rw [← Int.natCast_emod, Int.toNat_natCast, Int.toNat_natCast]
        exact this

/-- The parts of a fraction in lowest terms. -/
def lowN (a b : Int) : Int := a.tdiv (gd a b)
def lowD (a b : Int) : Int := b / gd a b
theorem gd_dvd (a b : Int) : gd a b ∣ b := by
  unfold gd
  exact Int.ofNat_dvd_left.2 (Nat.gcd_dvd_right _ _)
theorem lowD_pos {a b : Int} (h : 0 < b) : 0 < lowD a b := Int.ediv_pos_of_pos_of_dvd h (by have := gd_pos (a := a) h; omega) (gd_dvd a b)
theorem lowD_le {a b : Int} (h : 0 < b) : lowD a b ≤ b := Int.ediv_le_self _ (by omega)
theorem gd_ge {a b : Int} (h : 0 < b) : 1 ≤ gd a b := by have := gd_pos (a := a) h; omega
theorem lowN_abs {a b : Int} (h : 0 < b) : (lowN a b).natAbs ≤ a.natAbs := by
  unfold lowN
  rw [Int.natAbs_tdiv]
  exact Nat.div_le_self _ _
theorem lowN_fine {a b B : Int} (h : 0 < b) (hB : -B ≤ a ∧ a ≤ B) : -B ≤ lowN a b ∧ lowN a b ≤ B := by
  have := lowN_abs (a := a) h
  omega
theorem gd_dvdN (a b : Int) : gd a b ∣ a := by
  unfold gd
  exact Int.ofNat_dvd_left.2 (Nat.gcd_dvd_left _ _)
/-- The fraction is the same. -/
theorem low_eq {a b : Int} (h : 0 < b) : lowN a b * b = a * lowD a b := by
  obtain ⟨x, hx⟩ := gd_dvdN a b
  obtain ⟨y, hy⟩ := gd_dvd a b
  have hg := gd_pos (a := a) h
  have e1 : lowN a b = x := by
    unfold lowN
    generalize hG : gd a b = G at *
    rw [hx]; exact Int.mul_tdiv_cancel_left _ (by omega)
  have e2 : lowD a b = y := by
    unfold lowD
    generalize hG : gd a b = G at *
    rw [hy]; exact Int.mul_ediv_cancel_left _ (by omega)
  rw [e1, e2]
  generalize hG : gd a b = G at *
  rw [hy, hx]
  grind

theorem i_lowestTerms (a b : Int) (w : World) (ha : fine a) (hb : fine b) (h0 : 0 < b) : Calls Try.prog 68 #[.int .i64 a, .int .i64 b] w fun e w' => e = .returned (.tuple #[.int .i64 (lowN a b), .int .i64 (lowD a b)]) ∧ ∃ m, w' = w.drewN m := by
  have hg := gd_pos (a := a) h0
  go_enter Try.func68, Try.ntmps68
  go_wp2_with fail
  refine (i_gcdOf _ _ _ ha hb).mono ?_
  rintro e _ ⟨rfl, m, rfl⟩
  go_wp2
  go_quiet (fail)
  go_wp2
  go_ret2
  exact ⟨rfl, _, World.drewN_drewN ..⟩
theorem s_l3Reduce (a b : Int) (w : World) (ha : fine a) (hb : fine b) (h0 : 0 < b) : Calls Try.prog 65 #[.int .i64 a, .int .i64 b] w fun e w' => e = .returned (.tuple #[.int .i64 (lowN a b), .int .i64 (lowD a b)]) ∧ ∃ m, w' = w.drewN m := by
  have hg := gd_pos (a := a) h0
  go_enter Try.func65, Try.ntmps65
  go_wp2_with fail
  refine (s_l3Common _ _ _ ha hb).mono ?_
  rintro e _ ⟨rfl, m, rfl⟩
  go_wp2
  go_quiet (fail)
  go_wp2
  go_ret2
  exact ⟨rfl, _, World.drewN_drewN ..⟩

theorem i_asPart (a b : Int) (w : World) (ha : fine a) (hb : fine b) (h0 : 0 < b) : Calls Try.prog 87 #[.int .i64 a, .int .i64 b] w fun e w' => e = .returned (.agg #[.int .i64 (lowN a b), .int .i64 (lowD a b)]) ∧ Below w.heap.size w w' := by
  go_enter Try.func87, Try.ntmps87
  go_wp2_with fail
  refine (i_lowestTerms _ _ _ ha hb h0).mono ?_
  rintro e _ ⟨rfl, m, rfl⟩
  go_wp2
  go_returns
  refine ⟨rfl, ?_⟩
  repeat' (first | (with_reducible exact Below.refl _ _) | (with_reducible assumption) | (with_reducible refine bstep ?_ (by with_reducible assumption)) | (with_reducible refine Below.alloc ?_ ?_ _) | (with_reducible refine Below.setCell ?_ ?_ _) | (with_reducible refine Below.drew ?_) | (with_reducible refine below_drewN ?_ _) | omega | (simp only [World.size_alloc, World.size_setCell, World.size_drew]; omega) | (simp; omega))

theorem mul_in {x y A B : Int} (hx : -A ≤ x ∧ x ≤ A) (hy : -B ≤ y ∧ y ≤ B) : -(A * B) ≤ x * y ∧ x * y ≤ A * B := by
  have h1 : x.natAbs ≤ A.toNat := by omega
  have h2 : y.natAbs ≤ B.toNat := by omega
  have h3 : (x * y).natAbs ≤ A.toNat * B.toNat := by rw [Int.natAbs_mul]; exact Nat.mul_le_mul h1 h2
  have h4 : ((A.toNat * B.toNat : Nat) : Int) = A * B := by
    rw [Int.natCast_mul, Int.toNat_of_nonneg (by omega), Int.toNat_of_nonneg (by omega)]
  omega

end Go.Proofs.Ytpcbeapajlchgaa

/-
  Curves: the head at a flow and the flow at a head.
-/
set_option linter.unusedVariables false
set_option linter.unusedSimpArgs false
namespace Go.Proofs.Ytpcbeapajlchgaa
open Go.RowKit

theorem pt_flow {l : List Pt} {n k : Nat} (h : goodCurve l = true) (hn : l.length = n) (hk : k < n) : (0 ≤ (pt l k).1 ∧ (pt l k).1 ≤ 1000) ∧ (0 ≤ (pt l k).2 ∧ (pt l k).2 ≤ 1000) := by
  simp only [goodCurve, Bool.and_eq_true, List.all_eq_true, List.mem_range] at h
  have := h.2 k (by omega)
  simp only [okAt, Bool.and_eq_true] at this
  exact ⟨inR_iff.1 this.1.1, inR_iff.1 this.1.2⟩
theorem pt_step {l : List Pt} {n k : Nat} (h : goodCurve l = true) (hn : l.length = n) (hk : k < n) (h0 : k ≠ 0) : (pt l (k - 1)).1 < (pt l k).1 ∧ (pt l k).2 < (pt l (k - 1)).2 := by
  simp only [goodCurve, Bool.and_eq_true, List.all_eq_true, List.mem_range] at h
  have := h.2 k (by omega)
  simp only [okAt, Bool.and_eq_true, Bool.or_eq_true, decide_eq_true_eq] at this
  rcases this.2 with h1 | h1
  · exact absurd h1 h0
  · exact h1
theorem good_len {l : List Pt} {n : Nat} (h : goodCurve l = true) (hn : l.length = n) : 2 ≤ n ∧ n ≤ 6 := by
  simp only [goodCurve, Bool.and_eq_true] at h
  have := inR_iff.1 h.1.1
  omega
theorem good_first {l : List Pt} (h : goodCurve l = true) : (pt l 0).1 = 0 := by
  simp only [goodCurve, Bool.and_eq_true, decide_eq_true_eq] at h
  exact h.1.2

/-- The point k is the first one, behind the first, at which a test holds. -/
def Seg (n : Nat) (p : Nat → Prop) (k : Nat) : Prop := 1 ≤ k ∧ k < n ∧ (∀ j, 1 ≤ j → j < k → ¬ p j) ∧ p k
theorem seg_exists {n : Nat} {p : Nat → Prop} (h2 : 2 ≤ n) (h : p (n - 1)) : ∃ k, Seg n p k := by
  have key : ∀ m, m < n → 1 ≤ m → p m → ∃ k, Seg n p k := by
    intro m
    induction m using Nat.strongRecOn with
    | _ m ih =>
      intro hm h1 hp
      by_cases hq : ∃ j, 1 ≤ j ∧ j < m ∧ p j
      · obtain ⟨j, h3, h4, h5⟩ := hq
        exact ih j h4 (by omega) h3 h5
      · exact ⟨m, h1, hm, fun j h3 h4 h5 => hq ⟨j, h3, h4, h5⟩, hp⟩
  exact key (n - 1) (by omega) (by omega) h

theorem pair_new (W : World) (x y : Obj) (g : Nat) (hg : g = W.heap.size) : Below g W ((W.alloc x).alloc y).drew ∧ ((W.alloc x).alloc y).drew.heap[g]? = some x ∧ ((W.alloc x).alloc y).drew.heap[g + 1]? = some y := by
  subst hg
  refine ⟨(((Below.refl _ _).alloc (Nat.le_refl _) _).alloc (by simp) _).drew, ?_, ?_⟩
  · rw [((Below.refl (W.heap.size + 1) (W.alloc x)).alloc (by simp) y).drew.block _ (by omega)]
    exact heap_alloc_new _ _
  · have e := heap_alloc_new (W.alloc x) y
    simp only [World.size_alloc] at e
    exact e

/-- The head at a flow, between the points k - 1 and k; the flow at a head. -/
def hdN (l : List Pt) (k : Nat) (q : Int) : Int := (pt l (k - 1)).2 * ((pt l k).1 - q) + (pt l k).2 * (q - (pt l (k - 1)).1)
def hdD (l : List Pt) (k : Nat) : Int := (pt l k).1 - (pt l (k - 1)).1
def flN (l : List Pt) (k : Nat) (q : Int) : Int := (pt l (k - 1)).1 * (q - (pt l k).2) + (pt l k).1 * ((pt l (k - 1)).2 - q)
def flD (l : List Pt) (k : Nat) : Int := (pt l (k - 1)).2 - (pt l k).2


theorem hdN_eq (l : List Pt) (k : Nat) (q : Int) : hdN l k q = (pt l (k - 1)).2 * ((pt l k).1 - (pt l (k - 1)).1) - ((pt l (k - 1)).2 - (pt l k).2) * (q - (pt l (k - 1)).1) := by unfold hdN; grind
theorem flN_eq (l : List Pt) (k : Nat) (q : Int) : flN l k q = (pt l (k - 1)).1 * ((pt l (k - 1)).2 - (pt l k).2) + ((pt l k).1 - (pt l (k - 1)).1) * ((pt l (k - 1)).2 - q) := by unfold flN; grind

set_option maxHeartbeats 4000000 in
theorem i_headAt (a : Option Addr) (n c k : Nat) (q : Int) (l : List Pt) (w : World) (h : PAt w a n l) (hg : goodCurve l = true) (hk : Seg n (fun j => q ≤ (pt l j).1) k) (hq : 0 ≤ q ∧ q ≤ 1000) :
    Calls Try.prog 63 #[.slice a n c, .int .i64 q] w fun e w' => e = .returned (.agg #[.int .i64 (lowN (hdN l k q) (hdD l k)), .int .i64 (lowD (hdN l k q) (hdD l k))]) ∧ Below w.heap.size w w' := by
  have H := hid h
  have HL := hid h.1
  have HG := hid hg
  obtain ⟨hk1, hkn, hks, hkp⟩ := hk
  have HK := hid hks
  obtain ⟨_, hn6⟩ := good_len hg h.1
  clear h hg hks
  go_enter Try.func63, Try.ntmps63
  go_wp2
  go_loopg [5] (k - 1) (fun g i wr => ∃ j : Nat, 1 ≤ j ∧ j ≤ k ∧ g = k - j ∧ i = .int .i64 j ∧ wr = w.alloc (.cells #[.int .i64 0, .int .i64 0] 74))
  case atStart => exact ⟨1, by omega, hk1, rfl, rfl, rfl⟩
  case round =>
    obtain ⟨j, hj1, hjk, rfl, rfl, rfl⟩ := hrel
    obtain ⟨b0, off0, rfl, hbw, x0, x1⟩ := PAt.get H.out j (by omega)
    by_cases hlt : j < k
    · have hf : (pt l j).1 < q := by have := HK.out j hj1 hlt; omega
      go_wp2
      go_roundg (k - (j + 1))
      case rel => exact ⟨j + 1, by omega, by omega, rfl, by go_num, rfl⟩
      case measure => omega
    · obtain rfl : j = k := by omega
      have hf : ¬ ((pt l j).1 < q) := by omega
      have hw : IntKind.i64.wrap ((j : Int) - 1) = ((j - 1 : Nat) : Int) := (IntWalk.i64_in _ (by omega)).trans (by omega)
      have hj2 : j - 1 < n := by omega
      obtain ⟨b2, off2, e2, _, y0, y1⟩ := PAt.get H.out (j - 1) (by omega)
      cases e2
      have hz1 : b0 < w.heap.size + 1 := by omega
      have hz2 : b0 < w.heap.size + 1 + 1 := by omega
      go_upto_region 4 with fail
      go_cut [6, 7] (fun s6 s7 wx => ∃ g6 g7 : Nat, s6 = .pointer (some ⟨g6, 0, none⟩) ∧ s7 = .pointer (some ⟨g7, 0, none⟩) ∧ Hid (Below (w.heap.size + 1) (w.alloc (.cells #[.int .i64 0, .int .i64 0] 74)) wx ∧ wx.heap[g6]? = some (.cells #[.int .i64 (pt l (j - 1)).1, .int .i64 (pt l (j - 1)).2] 52 (0, 0)) ∧ wx.heap[g7]? = some (.cells #[.int .i64 (pt l j).1, .int .i64 (pt l j).2] 52 (0, 0))))
      case first =>
        go_region_with (fail)
        all_goals (go_wp2_with fail; go_meet)
        all_goals first
          | (refine ⟨w.heap.size + 1, w.heap.size + 1 + 1, rfl, rfl, ?_⟩; obtain ⟨r1, r2, r3⟩ := pair_new (w.alloc (.cells #[.int .i64 0, .int .i64 0] 74)) _ _ (w.heap.size + 1) (by simp); exact ⟨r1, r2, r3⟩)
          | (refine ⟨w.heap.size + 1 + 1, w.heap.size + 1, rfl, rfl, ?_⟩; obtain ⟨r1, r2, r3⟩ := pair_new (w.alloc (.cells #[.int .i64 0, .int .i64 0] 74)) _ _ (w.heap.size + 1) (by simp); exact ⟨r1, r3, r2⟩)
      case rest =>
        obtain ⟨g6, g7, rfl, rfl, hx⟩ := hcut
        clear x0 x1 y0 y1 hz1 hz2 hw hbw hj2
        obtain ⟨hB, h6, h7⟩ := hx.out
        have T0 : wc.heap[w.heap.size]? = some (.cells #[.int .i64 0, .int .i64 0] 74 (0, 0)) := by rw [hB.block _ (by omega)]; exact heap_alloc_new _ _
        have hz6 := (Array.getElem?_eq_some_iff.1 h6).1
        have hz7 := (Array.getElem?_eq_some_iff.1 h7).1
        have hz0 := (Array.getElem?_eq_some_iff.1 T0).1
        have HB : Hid (Below w.heap.size w wc) := hid ((((Below.refl _ _).alloc (Nat.le_refl _) _)).trans (hB.mono (by omega)))
        have m60 := cell_of_row wc _ 0 _ _ (0, 0) h6
        have m61 := cell_of_row wc _ 1 _ _ (0, 0) h6
        have m70 := cell_of_row wc _ 0 _ _ (0, 0) h7
        have m71 := cell_of_row wc _ 1 _ _ (0, 0) h7
        clear hx h6 h7
        have hB := hid hB
        have T0 := hid T0
        obtain ⟨p1, p2⟩ := pt_flow HG.out HL.out (k := j - 1) (by omega)
        obtain ⟨p3, p4⟩ := pt_flow HG.out HL.out (k := j) (by omega)
        obtain ⟨p5, p6⟩ := pt_step HG.out HL.out (k := j) (by omega) (by omega)
        have q1 := mul_in (x := (pt l (j - 1)).2) (y := (pt l j).1 - q) (A := 1000) (B := 1000) (by omega) (by omega)
        have q2 := mul_in (x := (pt l j).2) (y := q - (pt l (j - 1)).1) (A := 1000) (B := 1000) (by omega) (by omega)
        simp only [Int.reduceMul] at q1 q2
        go_wp2_with fail
        refine (i_asPart _ _ _ (by omega) (by omega) (by omega)).mono ?_
        rintro e w2 ⟨rfl, hb⟩
        have T2 := hid ((hb.block w.heap.size hz0).trans T0.out)
        have n0 : w2.cell? ⟨w.heap.size, 0, none⟩ = some (.int .i64 0) := by rw [cell_of_row w2 _ _ _ _ (0, 0) T2.out]; rfl
        have n1 : w2.cell? ⟨w.heap.size, 1, none⟩ = some (.int .i64 0) := by rw [cell_of_row w2 _ _ _ _ (0, 0) T2.out]; rfl
        have f0 := frozen_of_row w2 _ 0 _ _ T2.out
        have f1 := frozen_of_row w2 _ 1 _ _ T2.out
        have hz3 : w.heap.size < w2.heap.size := (Array.getElem?_eq_some_iff.1 T2.out).1
        clear m60 m61 m70 m71
        go_wp2
        have e7 := heap_setCell_same _ _ 1 _ _ (.int .i64 (lowD (hdN l j q) (hdD l j))) (heap_setCell_same w2 _ 0 _ _ (.int .i64 (lowN (hdN l j q) (hdD l j))) T2.out)
        have u0 := cell_of_row _ _ 0 _ _ (0, 0) e7
        have u1 := cell_of_row _ _ 1 _ _ (0, 0) e7
        simp only [hdN, hdD, List.setIfInBounds_toArray, List.set_cons_zero, List.set_cons_succ, List.getElem?_toArray, List.getElem?_cons_zero, List.getElem?_cons_succ] at u0 u1
        refine bodyPost_ret (v := .agg #[.int .i64 (lowN (hdN l j q) (hdD l j)), .int .i64 (lowD (hdN l j q) (hdD l j))]) (by simp [results, Try.results63, go_sem, hdN, hdD, *]) rfl ⟨rfl, ((bstep HB.out hb).setCell (Nat.le_refl _) _).setCell (Nat.le_refl _) _⟩
set_option maxHeartbeats 4000000 in
theorem i_flowAt (a : Option Addr) (n c k : Nat) (q : Int) (l : List Pt) (w : World) (h : PAt w a n l) (hg : goodCurve l = true) (hk : Seg n (fun j => (pt l j).2 ≤ q) k) (hq : 0 ≤ q ∧ q ≤ 1000) :
    Calls Try.prog 60 #[.slice a n c, .int .i64 q] w fun e w' => e = .returned (.agg #[.int .i64 (lowN (flN l k q) (flD l k)), .int .i64 (lowD (flN l k q) (flD l k))]) ∧ Below w.heap.size w w' := by
  have H := hid h
  have HL := hid h.1
  have HG := hid hg
  obtain ⟨hk1, hkn, hks, hkp⟩ := hk
  have HK := hid hks
  obtain ⟨_, hn6⟩ := good_len hg h.1
  clear h hg hks
  go_enter Try.func60, Try.ntmps60
  go_wp2
  go_loopg [5] (k - 1) (fun g i wr => ∃ j : Nat, 1 ≤ j ∧ j ≤ k ∧ g = k - j ∧ i = .int .i64 j ∧ wr = w.alloc (.cells #[.int .i64 0, .int .i64 0] 74))
  case atStart => exact ⟨1, by omega, hk1, rfl, rfl, rfl⟩
  case round =>
    obtain ⟨j, hj1, hjk, rfl, rfl, rfl⟩ := hrel
    obtain ⟨b0, off0, rfl, hbw, x0, x1⟩ := PAt.get H.out j (by omega)
    by_cases hlt : j < k
    · have hf : (pt l j).2 > q := by have := HK.out j hj1 hlt; omega
      go_wp2
      go_roundg (k - (j + 1))
      case rel => exact ⟨j + 1, by omega, by omega, rfl, by go_num, rfl⟩
      case measure => omega
    · obtain rfl : j = k := by omega
      have hf : ¬ ((pt l j).2 > q) := by omega
      have hw : IntKind.i64.wrap ((j : Int) - 1) = ((j - 1 : Nat) : Int) := (IntWalk.i64_in _ (by omega)).trans (by omega)
      have hj2 : j - 1 < n := by omega
      obtain ⟨b2, off2, e2, _, y0, y1⟩ := PAt.get H.out (j - 1) (by omega)
      cases e2
      have hz1 : b0 < w.heap.size + 1 := by omega
      have hz2 : b0 < w.heap.size + 1 + 1 := by omega
      go_upto_region 4 with fail
      go_cut [6, 7] (fun s6 s7 wx => ∃ g6 g7 : Nat, s6 = .pointer (some ⟨g6, 0, none⟩) ∧ s7 = .pointer (some ⟨g7, 0, none⟩) ∧ Hid (Below (w.heap.size + 1) (w.alloc (.cells #[.int .i64 0, .int .i64 0] 74)) wx ∧ wx.heap[g6]? = some (.cells #[.int .i64 (pt l (j - 1)).1, .int .i64 (pt l (j - 1)).2] 52 (0, 0)) ∧ wx.heap[g7]? = some (.cells #[.int .i64 (pt l j).1, .int .i64 (pt l j).2] 52 (0, 0))))
      case first =>
        go_region_with (fail)
        all_goals (go_wp2_with fail; go_meet)
        all_goals first
          | (refine ⟨w.heap.size + 1, w.heap.size + 1 + 1, rfl, rfl, ?_⟩; obtain ⟨r1, r2, r3⟩ := pair_new (w.alloc (.cells #[.int .i64 0, .int .i64 0] 74)) _ _ (w.heap.size + 1) (by simp); exact ⟨r1, r2, r3⟩)
          | (refine ⟨w.heap.size + 1 + 1, w.heap.size + 1, rfl, rfl, ?_⟩; obtain ⟨r1, r2, r3⟩ := pair_new (w.alloc (.cells #[.int .i64 0, .int .i64 0] 74)) _ _ (w.heap.size + 1) (by simp); exact ⟨r1, r3, r2⟩)
      case rest =>
        obtain ⟨g6, g7, rfl, rfl, hx⟩ := hcut
        clear x0 x1 y0 y1 hz1 hz2 hw hbw hj2
        obtain ⟨hB, h6, h7⟩ := hx.out
        have T0 : wc.heap[w.heap.size]? = some (.cells #[.int .i64 0, .int .i64 0] 74 (0, 0)) := by rw [hB.block _ (by omega)]; exact heap_alloc_new _ _
        have hz6 := (Array.getElem?_eq_some_iff.1 h6).1
        have hz7 := (Array.getElem?_eq_some_iff.1 h7).1
        have hz0 := (Array.getElem?_eq_some_iff.1 T0).1
        have HB : Hid (Below w.heap.size w wc) := hid ((((Below.refl _ _).alloc (Nat.le_refl _) _)).trans (hB.mono (by omega)))
        have m60 := cell_of_row wc _ 0 _ _ (0, 0) h6
        have m61 := cell_of_row wc _ 1 _ _ (0, 0) h6
        have m70 := cell_of_row wc _ 0 _ _ (0, 0) h7
        have m71 := cell_of_row wc _ 1 _ _ (0, 0) h7
        clear hx h6 h7
        have hB := hid hB
        have T0 := hid T0
        obtain ⟨p1, p2⟩ := pt_flow HG.out HL.out (k := j - 1) (by omega)
        obtain ⟨p3, p4⟩ := pt_flow HG.out HL.out (k := j) (by omega)
        obtain ⟨p5, p6⟩ := pt_step HG.out HL.out (k := j) (by omega) (by omega)
        have q1 := mul_in (x := (pt l (j - 1)).1) (y := q - (pt l j).2) (A := 1000) (B := 1000) (by omega) (by omega)
        have q2 := mul_in (x := (pt l j).1) (y := (pt l (j - 1)).2 - q) (A := 1000) (B := 1000) (by omega) (by omega)
        simp only [Int.reduceMul] at q1 q2
        go_wp2_with fail
        refine (i_asPart _ _ _ (by omega) (by omega) (by omega)).mono ?_
        rintro e w2 ⟨rfl, hb⟩
        have T2 := hid ((hb.block w.heap.size hz0).trans T0.out)
        have n0 : w2.cell? ⟨w.heap.size, 0, none⟩ = some (.int .i64 0) := by rw [cell_of_row w2 _ _ _ _ (0, 0) T2.out]; rfl
        have n1 : w2.cell? ⟨w.heap.size, 1, none⟩ = some (.int .i64 0) := by rw [cell_of_row w2 _ _ _ _ (0, 0) T2.out]; rfl
        have f0 := frozen_of_row w2 _ 0 _ _ T2.out
        have f1 := frozen_of_row w2 _ 1 _ _ T2.out
        have hz3 : w.heap.size < w2.heap.size := (Array.getElem?_eq_some_iff.1 T2.out).1
        clear m60 m61 m70 m71
        go_wp2
        have e7 := heap_setCell_same _ _ 1 _ _ (.int .i64 (lowD (flN l j q) (flD l j))) (heap_setCell_same w2 _ 0 _ _ (.int .i64 (lowN (flN l j q) (flD l j))) T2.out)
        have u0 := cell_of_row _ _ 0 _ _ (0, 0) e7
        have u1 := cell_of_row _ _ 1 _ _ (0, 0) e7
        simp only [flN, flD, List.setIfInBounds_toArray, List.set_cons_zero, List.set_cons_succ, List.getElem?_toArray, List.getElem?_cons_zero, List.getElem?_cons_succ] at u0 u1
        refine bodyPost_ret (v := .agg #[.int .i64 (lowN (flN l j q) (flD l j)), .int .i64 (lowD (flN l j q) (flD l j))]) (by simp [results, Try.results60, go_sem, flN, flD, *]) rfl ⟨rfl, ((bstep HB.out hb).setCell (Nat.le_refl _) _).setCell (Nat.le_refl _) _⟩
set_option maxHeartbeats 4000000 in
theorem s_l7Head (a : Option Addr) (n c k : Nat) (q : Int) (l : List Pt) (w : World) (h : PAt w a n l) (hg : goodCurve l = true) (hk : Seg n (fun j => q ≤ (pt l j).1) k) (hq : 0 ≤ q ∧ q ≤ 1000) :
    Calls Try.prog 61 #[.slice a n c, .int .i64 q] w fun e w' => e = .returned (.tuple #[.int .i64 (lowN (hdN l k q) (hdD l k)), .int .i64 (lowD (hdN l k q) (hdD l k))]) ∧ Below w.heap.size w w' := by
  have H := hid h
  have HL := hid h.1
  have HG := hid hg
  obtain ⟨hk1, hkn, hks, hkp⟩ := hk
  have HK := hid hks
  obtain ⟨_, hn6⟩ := good_len hg h.1
  clear h hg hks
  go_enter Try.func61, Try.ntmps61
  go_wp2
  go_loopg [6] (k - 1) (fun g i wr => ∃ j : Nat, 1 ≤ j ∧ j ≤ k ∧ g = k - j ∧ i = .int .i64 j ∧ w = wr)
  case atStart => exact ⟨1, by omega, hk1, rfl, rfl, rfl⟩
  case round =>
    obtain ⟨j, hj1, hjk, rfl, rfl, rfl⟩ := hrel
    obtain ⟨b0, off0, rfl, hbw, x0, x1⟩ := PAt.get H.out j (by omega)
    by_cases hlt : j < k
    · have hf : (pt l j).1 < q := by have := HK.out j hj1 hlt; omega
      go_wp2
      go_roundg (k - (j + 1))
      case rel => exact ⟨j + 1, by omega, by omega, rfl, by go_num, rfl⟩
      case measure => omega
    · obtain rfl : j = k := by omega
      have hf : ¬ ((pt l j).1 < q) := by omega
      have hw : IntKind.i64.wrap ((j : Int) - 1) = ((j - 1 : Nat) : Int) := (IntWalk.i64_in _ (by omega)).trans (by omega)
      have hj2 : j - 1 < n := by omega
      obtain ⟨b2, off2, e2, _, y0, y1⟩ := PAt.get H.out (j - 1) (by omega)
      cases e2
      have hz1 : b0 < w.heap.size + 1 := by omega
      have hz2 : b0 < w.heap.size + 1 + 1 := by omega
      go_upto_region 4 with fail
      go_cut [7, 8] (fun s6 s7 wx => ∃ g6 g7 : Nat, s6 = .pointer (some ⟨g6, 0, none⟩) ∧ s7 = .pointer (some ⟨g7, 0, none⟩) ∧ Hid (Below w.heap.size w wx ∧ wx.heap[g6]? = some (.cells #[.int .i64 (pt l (j - 1)).1, .int .i64 (pt l (j - 1)).2] 52 (0, 0)) ∧ wx.heap[g7]? = some (.cells #[.int .i64 (pt l j).1, .int .i64 (pt l j).2] 52 (0, 0))))
      case first =>
        go_region_with (fail)
        all_goals (go_wp2_with fail; go_meet)
        all_goals first
          | (refine ⟨w.heap.size, w.heap.size + 1, rfl, rfl, ?_⟩; obtain ⟨r1, r2, r3⟩ := pair_new w _ _ w.heap.size rfl; exact ⟨r1, r2, r3⟩)
          | (refine ⟨w.heap.size + 1, w.heap.size, rfl, rfl, ?_⟩; obtain ⟨r1, r2, r3⟩ := pair_new w _ _ w.heap.size rfl; exact ⟨r1, r3, r2⟩)
      case rest =>
        obtain ⟨g6, g7, rfl, rfl, hx⟩ := hcut
        clear x0 x1 y0 y1 hz1 hz2 hw hbw hj2
        obtain ⟨hB, h6, h7⟩ := hx.out
        have hz6 := (Array.getElem?_eq_some_iff.1 h6).1
        have hz7 := (Array.getElem?_eq_some_iff.1 h7).1
        have m60 := cell_of_row wc _ 0 _ _ (0, 0) h6
        have m61 := cell_of_row wc _ 1 _ _ (0, 0) h6
        have m70 := cell_of_row wc _ 0 _ _ (0, 0) h7
        have m71 := cell_of_row wc _ 1 _ _ (0, 0) h7
        clear hx h6 h7
        have HB := hid hB
        clear hB
        obtain ⟨p1, p2⟩ := pt_flow HG.out HL.out (k := j - 1) (by omega)
        obtain ⟨p3, p4⟩ := pt_flow HG.out HL.out (k := j) (by omega)
        obtain ⟨p5, p6⟩ := pt_step HG.out HL.out (k := j) (by omega) (by omega)
        have q1 := mul_in (x := (pt l (j - 1)).2) (y := (pt l j).1 - (pt l (j - 1)).1) (A := 1000) (B := 1000) (by omega) (by omega)
        have q2 := mul_in (x := (pt l (j - 1)).2 - (pt l j).2) (y := q - (pt l (j - 1)).1) (A := 1000) (B := 1000) (by omega) (by omega)
        simp only [Int.reduceMul] at q1 q2
        go_wp2_with fail
        refine (s_l3Reduce _ _ _ (by omega) (by omega) (by omega)).mono ?_
        rintro e _ ⟨rfl, m, rfl⟩
        go_wp2
        go_ret2
        refine ⟨?_, below_drewN HB.out _⟩
        show Ending.returned _ = _
        rw [hdN_eq]
        rfl
set_option maxHeartbeats 4000000 in
theorem s_l7Flow (a : Option Addr) (n c k : Nat) (q : Int) (l : List Pt) (w : World) (h : PAt w a n l) (hg : goodCurve l = true) (hk : Seg n (fun j => (pt l j).2 ≤ q) k) (hq : 0 ≤ q ∧ q ≤ 1000) :
    Calls Try.prog 59 #[.slice a n c, .int .i64 q] w fun e w' => e = .returned (.tuple #[.int .i64 (lowN (flN l k q) (flD l k)), .int .i64 (lowD (flN l k q) (flD l k))]) ∧ Below w.heap.size w w' := by
  have H := hid h
  have HL := hid h.1
  have HG := hid hg
  obtain ⟨hk1, hkn, hks, hkp⟩ := hk
  have HK := hid hks
  obtain ⟨_, hn6⟩ := good_len hg h.1
  clear h hg hks
  go_enter Try.func59, Try.ntmps59
  go_wp2
  go_loopg [6] (k - 1) (fun g i wr => ∃ j : Nat, 1 ≤ j ∧ j ≤ k ∧ g = k - j ∧ i = .int .i64 j ∧ w = wr)
  case atStart => exact ⟨1, by omega, hk1, rfl, rfl, rfl⟩
  case round =>
    obtain ⟨j, hj1, hjk, rfl, rfl, rfl⟩ := hrel
    obtain ⟨b0, off0, rfl, hbw, x0, x1⟩ := PAt.get H.out j (by omega)
    by_cases hlt : j < k
    · have hf : (pt l j).2 > q := by have := HK.out j hj1 hlt; omega
      go_wp2
      go_roundg (k - (j + 1))
      case rel => exact ⟨j + 1, by omega, by omega, rfl, by go_num, rfl⟩
      case measure => omega
    · obtain rfl : j = k := by omega
      have hf : ¬ ((pt l j).2 > q) := by omega
      have hw : IntKind.i64.wrap ((j : Int) - 1) = ((j - 1 : Nat) : Int) := (IntWalk.i64_in _ (by omega)).trans (by omega)
      have hj2 : j - 1 < n := by omega
      obtain ⟨b2, off2, e2, _, y0, y1⟩ := PAt.get H.out (j - 1) (by omega)
      cases e2
      have hz1 : b0 < w.heap.size + 1 := by omega
      have hz2 : b0 < w.heap.size + 1 + 1 := by omega
      go_upto_region 4 with fail
      go_cut [7, 8] (fun s6 s7 wx => ∃ g6 g7 : Nat, s6 = .pointer (some ⟨g6, 0, none⟩) ∧ s7 = .pointer (some ⟨g7, 0, none⟩) ∧ Hid (Below w.heap.size w wx ∧ wx.heap[g6]? = some (.cells #[.int .i64 (pt l (j - 1)).1, .int .i64 (pt l (j - 1)).2] 52 (0, 0)) ∧ wx.heap[g7]? = some (.cells #[.int .i64 (pt l j).1, .int .i64 (pt l j).2] 52 (0, 0))))
      case first =>
        go_region_with (fail)
        all_goals (go_wp2_with fail; go_meet)
        all_goals first
          | (refine ⟨w.heap.size, w.heap.size + 1, rfl, rfl, ?_⟩; obtain ⟨r1, r2, r3⟩ := pair_new w _ _ w.heap.size rfl; exact ⟨r1, r2, r3⟩)
          | (refine ⟨w.heap.size + 1, w.heap.size, rfl, rfl, ?_⟩; obtain ⟨r1, r2, r3⟩ := pair_new w _ _ w.heap.size rfl; exact ⟨r1, r3, r2⟩)
      case rest =>
        obtain ⟨g6, g7, rfl, rfl, hx⟩ := hcut
        clear x0 x1 y0 y1 hz1 hz2 hw hbw hj2
        obtain ⟨hB, h6, h7⟩ := hx.out
        have hz6 := (Array.getElem?_eq_some_iff.1 h6).1
        have hz7 := (Array.getElem?_eq_some_iff.1 h7).1
        have m60 := cell_of_row wc _ 0 _ _ (0, 0) h6
        have m61 := cell_of_row wc _ 1 _ _ (0, 0) h6
        have m70 := cell_of_row wc _ 0 _ _ (0, 0) h7
        have m71 := cell_of_row wc _ 1 _ _ (0, 0) h7
        clear hx h6 h7
        have HB := hid hB
        clear hB
        obtain ⟨p1, p2⟩ := pt_flow HG.out HL.out (k := j - 1) (by omega)
        obtain ⟨p3, p4⟩ := pt_flow HG.out HL.out (k := j) (by omega)
        obtain ⟨p5, p6⟩ := pt_step HG.out HL.out (k := j) (by omega) (by omega)
        have q1 := mul_in (x := (pt l (j - 1)).1) (y := (pt l (j - 1)).2 - (pt l j).2) (A := 1000) (B := 1000) (by omega) (by omega)
        have q2 := mul_in (x := (pt l j).1 - (pt l (j - 1)).1) (y := (pt l (j - 1)).2 - q) (A := 1000) (B := 1000) (by omega) (by omega)
        simp only [Int.reduceMul] at q1 q2
        go_wp2_with fail
        refine (s_l3Reduce _ _ _ (by omega) (by omega) (by omega)).mono ?_
        rintro e _ ⟨rfl, m, rfl⟩
        go_wp2
        go_ret2
        refine ⟨?_, below_drewN HB.out _⟩
        show Ending.returned _ = _
        rw [flN_eq]
        rfl

end Go.Proofs.Ytpcbeapajlchgaa

