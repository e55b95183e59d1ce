/-
  Texts of this claim, joined: DrawS, PipeA, NetA, NetR, NetQ.
-/
import Derived.Test.YtpmffboojkfpdaaSp1
import Derived.Test.YtpmffboojkfpdaaSp2
import Derived.Test.YtpmffboojkfpdaaSp3
import Derived.Test.YtpmffboojkfpdaaSp4
/-
  The draws of sizes and of a flow to be split.
-/
set_option linter.unusedVariables false
set_option linter.unusedSimpArgs false
namespace Go.Proofs.Ytpmffboojkfpdaa
open Go.RowKit

/-- A list in the making, and the cursor. -/
structure IB (w W : World) (g K : Nat) (a : Option Addr) (n c : Nat) (L : List Int) : Prop where
  cur : Cur W g K
  bel : Below w.heap.size w W
  own : OwnI W (g + 1) (.slice a n c) L
  lo : w.heap.size ≤ g
section
variable {w W W' : World} {g K n c : Nat} {a : Option Addr} {L : List Int}
theorem IB.step {K' : Nat} (h : IB w W g K a n c L) (hc : Cur W' g K') (hg : W.grownBy W' (some g)) : IB w W' g K' a n c L :=
  ⟨hc, h.bel.grown hg h.bel.size (fun q e => by have := h.lo; have := Option.some.inj e; omega), h.own.kept hg (ownI_ne h.own (by omega)), h.lo⟩
theorem IB.below (h : IB w W g K a n c L) (hb : Below W.heap.size W W') : IB w W' g K a n c L := h.step (h.cur.below hb) (grown_of_below hb _)
theorem IB.le {K' : Nat} (h : IB w W g K a n c L) (hk : K ≤ K') : IB w W g K' a n c L := ⟨h.cur.le hk, h.bel, h.own, h.lo⟩
theorem IB.put {a' : Option Addr} {n' c' : Nat} {L' : List Int} (h : IB w W g K a n c L) (hg : W.grownBy W' (Value.ownBlock (.slice a n c))) (ho : OwnI W' (g + 1) (.slice a' n' c') L') : IB w W' g K a' n' c' L' :=
  ⟨h.cur.kept hg (fun k e => by have := (h.own.lt k e).1; omega), h.bel.grown hg h.bel.size (fun k e => by have := (h.own.lt k e).1; have := h.lo; omega), ho, h.lo⟩
end
/-- A finished list, and the cursor. -/
structure IF (w W : World) (g K : Nat) (a : Option Addr) (n : Nat) (L : List Int) : Prop where
  cur : Cur W g K
  bel : Below w.heap.size w W
  ia : IntsAt W a n L
  fr : ∀ b o, a = some ⟨b, o, none⟩ → g < b ∧ b < W.heap.size
  lo : w.heap.size ≤ g
theorem IB.fin {w W : World} {g K n c : Nat} {a : Option Addr} {L : List Int} (h : IB w W g K a n c L) : IF w W g K a n L :=
  ⟨h.cur, h.bel, h.own.at, fun b o e => by
    subst e
    have := h.own.lt b rfl
    omega, h.lo⟩
theorem IF.step {w W W' : World} {g K K' n : Nat} {a : Option Addr} {L : List Int} (h : IF w W g K a n L) (hc : Cur W' g K') (hg : W.grownBy W' (some g)) : IF w W' g K' a n L :=
  ⟨hc, h.bel.grown hg h.bel.size (fun q e => by have := h.lo; have := Option.some.inj e; omega), h.ia.kept hg (fun b o e e2 => by have := h.fr b o e; have := Option.some.inj e2; omega), fun b o e => by have := h.fr b o e; have := hg.size; omega, h.lo⟩

theorem IF.below {w W W' : World} {g K n : Nat} {a : Option Addr} {L : List Int} (h : IF w W g K a n L) (hb : Below W.heap.size W W') : IF w W' g K a n L := h.step (h.cur.below hb) (grown_of_below hb _)
theorem own_someS {w : World} {B n c : Nat} {a : Option Addr} {l : List Int} (h : OwnI w B (.slice a n c) l) (hn : 0 < n) : ∃ g, a = some ⟨g, 0, none⟩ ∧ B ≤ g ∧ g < w.heap.size := by
  have hlt := h.lt
  have hl := h.len
  unfold OwnI at h
  rcases h.2 with ⟨h1, h0⟩ | ⟨g, cap, cur, h1, hB, hg, hnc, hm, hs, ht⟩
  · simp only [Value.slice.injEq] at h1
    omega
  · simp only [Value.slice.injEq] at h1
    obtain ⟨rfl, -, rfl⟩ := h1
    exact ⟨g, rfl, hlt g rfl⟩

set_option maxRecDepth 100000 in
set_option maxHeartbeats 8000000 in
theorem s_DrawSplitFlow (a0 : Option Addr) (n0 c0 : Nat) (w : World) (h : BytesAt w a0 n0) :
    Calls Try.prog 56 #[.slice a0 n0 c0] w fun e w' => ∃ (a : Option Addr) (n c : Nat) (L : List Int) (q : Int), e = .returned (.tuple #[.slice a n c, .int .i64 q]) ∧ (IntsAt w' a n L ∧ n ≤ 6 ∧ ∀ b o, a = some ⟨b, o, none⟩ → w.heap.size ≤ b ∧ b < w'.heap.size) ∧ Below w.heap.size w w' := by
  have H := hid h
  clear h
  go_enter Try.func56, Try.ntmps56
  go_upto_region 2 with fail
  have C0 := hid (Cur.start (c := c0) (g := w.heap.size) H.out rfl)
  have B0 := hid (by go_grown : Below w.heap.size w (w.alloc (.cells #[.slice a0 n0 c0, .int .i64 0, .int .u64 0] 85)))
  have hz0 : (w.alloc (.cells #[.slice a0 n0 c0, .int .i64 0, .int .u64 0] 85)).heap.size = w.heap.size + 1 := by simp
  obtain ⟨g, hgg⟩ : ∃ g, w.heap.size = g := ⟨_, rfl⟩
  have hgw : w.heap.size ≤ g := by omega
  rw [hgg] at C0 hz0 ⊢
  generalize w.alloc (.cells #[.slice a0 n0 c0, .int .i64 0, .int .u64 0] 85) = w0 at *
  clear hgg
  go_upto_region 3 with fail
  have S1 := hid (show IB w (w0.alloc (.cells #[] 3)) g 0 (some ⟨w0.heap.size, 0, none⟩) 0 0 [] from ⟨C0.out.below (by go_grown), bstep B0.out (by go_grown), (OwnI.lit0 w0).mono (by omega), hgw⟩)
  rw [hz0] at S1
  generalize w0.alloc (.cells #[] 3) = w1 at *
  go_wp2_with fail
  refine (c_pick g _ 4 _ S1.out.cur (by omega) (by omega)).mono ?_
  rintro e w2 ⟨⟨v, rfl, hv0, hv1⟩, hc, hg⟩
  have S2 := hid (S1.out.step hc hg)
  clear hc hg S1 C0 B0
  obtain ⟨T, hT⟩ : ∃ T : Nat, 1 + v = (T : Int) := ⟨(1 + v).toNat, by omega⟩
  have hT4 : 1 ≤ T ∧ T ≤ 4 := by omega
  have hwT : IntKind.i64.wrap (1 + v) = (T : Int) := by rw [hT]; exact IntWalk.i64_in _ (by omega)
  clear hv0 hv1 hT
  go_wp2
  go_loopg [5, 6] T (fun gm o i wr => ∃ (k : Nat) (a' : Option Addr) (c' : Nat) (L : List Int), k ≤ T ∧ gm = T - k ∧ o = .slice a' k c' ∧ i = .int .i64 ((T : Int) - (k : Int)) ∧ Hid (IB w wr g (2 + 2 * k) a' k c' L))
  case atStart => exact ⟨0, _, 0, [], Nat.zero_le _, rfl, rfl, by simp, hid (S2.out.le (by omega))⟩
  case round =>
    obtain ⟨k, a', c', L, hk, rfl, rfl, rfl, hh⟩ := hrel
    clear S2
    have hgl := hh.out.cur.lt
    by_cases hlt : k < T
    · have hlti : (0 : Int) < (T : Int) - (k : Int) := by omega
      have hwk : IntKind.i64.wrap ((T : Int) - (k : Int) - 1) = (T : Int) - ((k + 1 : Nat) : Int) := by rw [IntWalk.i64_in _ (by omega)]; omega
      go_wp2_with fail
      refine (c_among g _ wr.heap.size 6 6 [1, 1, 2, 3, 5, 9] _ (hh.out.cur.below (by go_grown)) (by omega) (IntsAt.lit' _ 3 [1, 1, 2, 3, 5, 9] rfl rfl) (by omega) (by omega) (by omega)).mono ?_
      rintro e w5 ⟨⟨v, rfl, hv⟩, hc5, hg5⟩
      have S5 := hid ((hh.out.below (by go_grown)).step hc5 hg5)
      have hll := S5.out.own.len
      have hgl5 := S5.out.cur.lt
      clear hc5 hg5 hv hh
      go_wp2_with (at_builtin; refine wp_append_ints _ rfl _ _ rfl (g + 1) _ L rfl (S5.out.own.alloc _) _ 1 1 [v] rfl (IntsAt.single _ _) (k + 1) (by omega) (by omega) (by simp; omega) ?_)
      intro a2 c2 w6 hown hgrow hblk
      have S6 := hid ((S5.out.below (by go_grown : Below w5.heap.size w5 (w5.alloc (.cells #[.int .i64 v] 3)))).put hgrow hown)
      clear hown hgrow hblk hll
      go_wp2
      go_roundg (T - (k + 1))
      case rel => exact ⟨k + 1, _, _, _, by omega, rfl, rfl, rfl, hid (S6.out.le (by omega))⟩
      case measure => omega
    · have hlti : ¬ (0 : Int) < (T : Int) - (k : Int) := by omega
      obtain rfl : T = k := by omega
      have hll := hh.out.own.len
      go_wp2_with fail
      refine (c_pick g _ 24 _ hh.out.cur (by omega) (by omega)).mono ?_
      rintro e w5 ⟨⟨v, rfl, hv0, hv1⟩, hc5, hg5⟩
      have S5 := hid (hh.out.step hc5 hg5)
      have hgl5 := S5.out.cur.lt
      clear hc5 hg5 hh
      by_cases v0 : v = 0
      · subst v0
        obtain ⟨z, rfl, hz1, hz2⟩ := own_someS S5.out.own (by omega)
        go_wp2_with fail
        refine (c_among g _ w5.heap.size 2 2 [0, 10] _ (S5.out.cur.below (by go_grown)) (by omega) (IntsAt.lit' _ 3 [0, 10] rfl rfl) (by omega) (by omega) (by omega)).mono ?_
        rintro e w6 ⟨⟨u, rfl, hu⟩, hc6, hg6⟩
        have S6 := hid ((S5.out.below (by go_grown)).step hc6 hg6)
        have hcx := S6.out.own.cell (k := 0) (by omega)
        have hfx := S6.out.own.frozen (k := 0)
        have hzx := (S6.out.own.lt z rfl).2
        have h0T : 0 < T := by omega
        have S7 := hid (S6.out.put (S6.out.own.set (k := 0) u).2 (S6.out.own.set (k := 0) u).1).fin
        clear hc6 hg6 hu
        go_upto_region 14 with fail
        clear hcx hfx hzx
        generalize w6.setCell ⟨z, 0, none⟩ (.int .i64 u) = w7 at *
        have hgl9 := S7.out.cur.lt
        go_wp2_with fail
        refine (c_among g _ (w7).heap.size 9 9 [0, 1, 2, 7, 20, 60, 61, -1, 13] _ (S7.out.cur.below (by go_grown)) (by omega) (IntsAt.lit' _ 3 [0, 1, 2, 7, 20, 60, 61, -1, 13] rfl rfl) (by omega) (by omega) (by omega)).mono ?_
        rintro e wE ⟨⟨u, rfl, hu⟩, hc, hg⟩
        have SE := hid ((S7.out.below (by go_grown)).step hc hg)
        clear hc hg hu
        go_wp2
        go_ret2
        exact ⟨_, _, _, _, u, rfl, ⟨SE.out.ia, by omega, fun b o e => by have := SE.out.fr b o e; have := SE.out.lo; omega⟩, SE.out.bel⟩
      · by_cases v1 : v = 1
        · subst v1
          have S7 := hid (show IF w (w5.alloc (.cells #[] 3)) g _ (some ⟨w5.heap.size, 0, none⟩) 0 [] from ⟨S5.out.cur.below (by go_grown), bstep S5.out.bel (by go_grown), IntsAt.nil _ _, fun b o e => by simp only [Option.some.injEq, Addr.mk.injEq] at e; simp; omega, S5.out.lo⟩)
          go_upto_region 14 with fail
          generalize w5.alloc (.cells #[] 3) = w7 at *
          generalize w5.heap.size = z at *
          have hgl9 := S7.out.cur.lt
          go_wp2_with fail
          refine (c_among g _ (w7).heap.size 9 9 [0, 1, 2, 7, 20, 60, 61, -1, 13] _ (S7.out.cur.below (by go_grown)) (by omega) (IntsAt.lit' _ 3 [0, 1, 2, 7, 20, 60, 61, -1, 13] rfl rfl) (by omega) (by omega) (by omega)).mono ?_
          rintro e wE ⟨⟨u, rfl, hu⟩, hc, hg⟩
          have SE := hid ((S7.out.below (by go_grown)).step hc hg)
          clear hc hg hu
          go_wp2
          go_ret2
          exact ⟨_, _, _, _, u, rfl, ⟨SE.out.ia, by omega, fun b o e => by have := SE.out.fr b o e; have := SE.out.lo; omega⟩, SE.out.bel⟩
        · by_cases v2 : v = 2
          · subst v2
            go_wp2_with fail
            refine (c_pick g _ 2 _ (S5.out.cur.below (by go_grown)) (by omega) (by omega)).mono ?_
            rintro e w6 ⟨⟨v, rfl, hv0, hv1⟩, hc6, hg6⟩
            have I0 : IntsAt (w5.alloc _) (some ⟨w5.heap.size, 0, none⟩) 6 [1, 2, 3, 4, 5, 6] := IntsAt.lit' w5 3 [1, 2, 3, 4, 5, 6] rfl rfl
            have I6 := hid (I0.kept hg6 (fun b o e e2 => by simp only [Option.some.injEq, Addr.mk.injEq] at e; have := Option.some.inj e2; omega))
            have B6 := hid ((bstep S5.out.bel (by go_grown)).grown hg6 (by have := S5.out.bel.size; simp; omega) (fun q e => by have := S5.out.lo; have := Option.some.inj e; omega))
            have C6 := hid hc6
            have hz6 := hg6.size
            simp only [World.size_alloc] at hz6
            obtain ⟨k, hk⟩ : ∃ k : Nat, 5 + v = (k : Int) := ⟨(5 + v).toNat, by omega⟩
            have hk2 : 5 ≤ k ∧ k ≤ 6 := by omega
            have hw2 : IntKind.i64.wrap (5 + v) = (k : Int) := by rw [hk]; exact IntWalk.i64_in _ (by omega)
            have hk3 : (k : Int) ≤ 6 := by omega
            clear hc6 hg6 hv0 hv1 hk I0
            have S7 := hid (show IF w w6 g _ (some ⟨w5.heap.size, 0, none⟩) k ([1, 2, 3, 4, 5, 6].take k) from ⟨C6.out, B6.out, ints_take I6.out (by omega), fun b o e => by simp only [Option.some.injEq, Addr.mk.injEq] at e; omega, S5.out.lo⟩)
            go_upto_region 14 with fail
            generalize w5.heap.size = z at *
            have hgl9 := S7.out.cur.lt
            go_wp2_with fail
            refine (c_among g _ (w6).heap.size 9 9 [0, 1, 2, 7, 20, 60, 61, -1, 13] _ (S7.out.cur.below (by go_grown)) (by omega) (IntsAt.lit' _ 3 [0, 1, 2, 7, 20, 60, 61, -1, 13] rfl rfl) (by omega) (by omega) (by omega)).mono ?_
            rintro e wE ⟨⟨u, rfl, hu⟩, hc, hg⟩
            have SE := hid ((S7.out.below (by go_grown)).step hc hg)
            clear hc hg hu
            go_wp2
            go_ret2
            exact ⟨_, _, _, _, u, rfl, ⟨SE.out.ia, by omega, fun b o e => by have := SE.out.fr b o e; have := SE.out.lo; omega⟩, SE.out.bel⟩
          · have S7 := hid S5.out.fin
            go_upto_region 14 with fail
            have hgl9 := S7.out.cur.lt
            go_wp2_with fail
            refine (c_among g _ (w5).heap.size 9 9 [0, 1, 2, 7, 20, 60, 61, -1, 13] _ (S7.out.cur.below (by go_grown)) (by omega) (IntsAt.lit' _ 3 [0, 1, 2, 7, 20, 60, 61, -1, 13] rfl rfl) (by omega) (by omega) (by omega)).mono ?_
            rintro e wE ⟨⟨u, rfl, hu⟩, hc, hg⟩
            have SE := hid ((S7.out.below (by go_grown)).step hc hg)
            clear hc hg hu
            go_wp2
            go_ret2
            exact ⟨_, _, _, _, u, rfl, ⟨SE.out.ia, by omega, fun b o e => by have := SE.out.fr b o e; have := SE.out.lo; omega⟩, SE.out.bel⟩

/-- Sizes and parts, and the cursor. -/
structure ES (w W : World) (g K : Nat) (a : Option Addr) (n : Nat) (L : List Int) (z m c : Nat) (P : List Int) : Prop where
  cur : Cur W g K
  bel : Below w.heap.size w W
  ia : IntsAt W a n L
  own : OwnI W (g + 1) (.slice (some ⟨z, 0, none⟩) m c) P
  fr : ∀ b o, a = some ⟨b, o, none⟩ → b ≠ g ∧ b ≠ z
  lo : w.heap.size ≤ g
theorem ES.step {w W W' : World} {g K K' n z m c : Nat} {a : Option Addr} {L P : List Int} (h : ES w W g K a n L z m c P) (hc : Cur W' g K') (hg : W.grownBy W' (some g)) : ES w W' g K' a n L z m c P :=
  ⟨hc, h.bel.grown hg h.bel.size (fun q e => by have := h.lo; have := Option.some.inj e; omega), h.ia.kept hg (fun b o e e2 => (h.fr b o e).1 (Option.some.inj e2)), h.own.kept hg (ownI_ne h.own (by omega)), h.fr, h.lo⟩
theorem ES.below {w W W' : World} {g K n z m c : Nat} {a : Option Addr} {L P : List Int} (h : ES w W g K a n L z m c P) (hb : Below W.heap.size W W') : ES w W' g K a n L z m c P := h.step (h.cur.below hb) (grown_of_below hb _)
theorem ES.set {w W : World} {g K n z m c : Nat} {a : Option Addr} {L P : List Int} (h : ES w W g K a n L z m c P) (i : Nat) (x : Int) : ES w (W.setCell ⟨z, i, none⟩ (.int .i64 x)) g K a n L z m c (P.set i x) := by
  have h1 := (h.own.lt z rfl).1
  have h2 := h.lo
  exact ⟨h.cur.set (by omega), h.bel.setCell (by show _ ≤ z; omega) _, h.ia.kept (grown_setCell W z i _) (fun b o e e2 => (h.fr b o e).2 (Option.some.inj e2)), (h.own.set (k := i) x).1, h.fr, h.lo⟩

set_option maxRecDepth 100000 in
set_option maxHeartbeats 8000000 in
theorem s_DrawSplitEnergy (a0 : Option Addr) (n0 c0 : Nat) (w : World) (h : BytesAt w a0 n0) :
    Calls Try.prog 59 #[.slice a0 n0 c0] w fun e w' => ∃ (a : Option Addr) (n c : Nat) (L : List Int) (a2 : Option Addr) (n2 c2 : Nat) (P : List Int), e = .returned (.tuple #[.slice a n c, .slice a2 n2 c2]) ∧ ((IntsAt w' a n L ∧ n ≤ 6) ∧ IntsAt w' a2 n2 P ∧ n2 ≤ 1000) ∧ Below w.heap.size w w' := by
  have H := hid h
  clear h
  go_enter Try.func59, Try.ntmps59
  go_upto_region 2 with fail
  have C0 := hid (Cur.start (c := c0) (g := w.heap.size) H.out rfl)
  have B0 := hid (by go_grown : Below w.heap.size w (w.alloc (.cells #[.slice a0 n0 c0, .int .i64 0, .int .u64 0] 85)))
  have hz0 : (w.alloc (.cells #[.slice a0 n0 c0, .int .i64 0, .int .u64 0] 85)).heap.size = w.heap.size + 1 := by simp
  obtain ⟨g, hgg⟩ : ∃ g, w.heap.size = g := ⟨_, rfl⟩
  have hgw : w.heap.size ≤ g := by omega
  rw [hgg] at C0 hz0 ⊢
  generalize w.alloc (.cells #[.slice a0 n0 c0, .int .i64 0, .int .u64 0] 85) = w0 at *
  clear hgg
  go_wp2_with fail
  refine (s_DrawSplitFlow _ _ _ _ (H.out.below B0.out)).mono ?_
  rintro e w1 ⟨a, n, c, L, q, rfl, ⟨hI, hn, hfr⟩, hb⟩
  obtain ⟨R, ok, hR⟩ : ∃ R ok, splitR L q = (R, ok) := ⟨_, _, rfl⟩
  have hRl := splitR_len hR
  have HR := hid hR
  have HI := hid hI
  have hz1 := hb.size
  go_wp2_with fail
  refine (s_SplitFlow _ _ _ q L _ HI.out (by omega) R ok HR.out).mono ?_
  rintro e w2 ⟨a2, c2, rfl, ho, hb2⟩
  have HF := hid (show ∀ b o, a = some ⟨b, o, none⟩ → g < b ∧ b < w1.heap.size from fun b o e => by have := hfr b o e; omega)
  have hI2 := hI.below hb2
  have C2 := hid ((C0.out.below hb).below hb2)
  have B2 := hid (bstep (bstep B0.out hb) hb2)
  have O2 := hid ho
  have I2 := hid hI2
  have hz2 := hb2.size
  have HFR := hid hfr
  clear hI hb ho hb2 hR hI2 hfr
  cases ok
  · -- no split: one part
    have I3 := hid (IntsAt.single w2 5)
    have B3 := hid (by go_grown : Below w2.heap.size w2 (w2.alloc (.cells #[.int .i64 5] 3)))
    go_wp2
    go_ret2
    exact ⟨a, n, c, L, _, 1, _, [5], rfl, ⟨⟨I2.out.below B3.out, hn⟩, I3.out, by omega⟩, bstep B2.out B3.out⟩
  · obtain ⟨M, hM⟩ : ∃ M, R.length = M := ⟨_, rfl⟩
    rw [hM] at O2 hRl ⊢
    clear hM
    by_cases hlen : 1 < M
    · have hleni : (1 : Int) < (M : Int) := by omega
      obtain ⟨z, rfl, hz3, hz4⟩ := own_someS O2.out (by omega)
      have S2 := hid (show ES w w2 g _ a n L z M c2 R from ⟨C2.out, B2.out, I2.out, O2.out.mono (by omega), fun b o e => by have := HF.out b o e; omega, hgw⟩)
      have hM0 : (0 : Int) < (M : Int) := by omega
      have hM1 : 0 < M := by omega
      clear O2
      go_wp2_with fail
      refine (c_one g _ 2 _ S2.out.cur (by omega) (by omega)).mono ?_
      rintro e w3 ⟨⟨bb, rfl⟩, hc3, hg3⟩
      have S3 := hid (S2.out.step hc3 hg3)
      clear hc3 hg3 S2
      cases bb
      · go_wp2
        go_ret2
        exact ⟨a, n, c, L, _, M, _, R, rfl, ⟨⟨S3.out.ia, hn⟩, S3.out.own.at, by omega⟩, S3.out.bel⟩
      · obtain ⟨v0, hv0⟩ : ∃ v, (R)[0]?.getD 0 = v := ⟨_, rfl⟩
        have m0 := S3.out.own.cell (k := 0) (by omega)
        rw [hv0] at m0
        go_upto_region 7 with fail
        refine wp_region_noPanic ?_
        refine wp_region_to (fun w' => w'.cell? ⟨z, 0, none⟩ = some (.int .i64 v0)) 9 (by kernel_rfl) (by exact m0) (fun hHeld => ?_)
        refine AnyTo.take (i := 0) (v := ?_) rfl (by kernel_rfl) (by kernel_rfl) (by kernel_rfl) (by kernel_rfl) (fun _ _ _ h => h) (Or.inl ⟨by rfl, ?_⟩) (by assumption) ?_
        rotate_left
        · (intro w' hSw; (try dsimp only at hSw); go_simp; all_goals with_reducible rfl)
        try simp only [Act.put, List.setIfInBounds_toArray, List.set_cons_zero, List.set_cons_succ]
        refine AnyTo.take (i := 1) (v := ?_) rfl (by kernel_rfl) (by kernel_rfl) (by kernel_rfl) (by kernel_rfl) (fun _ _ _ h => h) (Or.inl ⟨by rfl, ?_⟩) (by assumption) ?_
        rotate_left
        · (intro w' hSw; (try dsimp only at hSw); go_simp; all_goals with_reducible rfl)
        try simp only [Act.put, List.setIfInBounds_toArray, List.set_cons_zero, List.set_cons_succ]
        refine AnyTo.take (i := 2) (v := ?_) rfl (by kernel_rfl) (by kernel_rfl) (by kernel_rfl) (by kernel_rfl) (fun _ _ _ h => h) (Or.inl ⟨by rfl, ?_⟩) (by assumption) ?_
        rotate_left
        · (intro w' hSw; (try dsimp only at hSw); go_simp; all_goals with_reducible rfl)
        try simp only [Act.put, List.setIfInBounds_toArray, List.set_cons_zero, List.set_cons_succ]
        refine AnyTo.take (i := 3) (v := ?_) rfl (by kernel_rfl) (by kernel_rfl) (by kernel_rfl) (by kernel_rfl) (fun _ _ _ h => h) (Or.inl ⟨by rfl, ?_⟩) (by assumption) ?_
        rotate_left
        · (intro w' hSw; (try dsimp only at hSw); go_simp; all_goals with_reducible rfl)
        try simp only [Act.put, List.setIfInBounds_toArray, List.set_cons_zero, List.set_cons_succ]
        refine AnyTo.take (i := 4) (v := ?_) rfl (by kernel_rfl) (by kernel_rfl) (by kernel_rfl) (by kernel_rfl) (fun _ _ _ h => h) (Or.inl ⟨by rfl, ?_⟩) (by assumption) ?_
        rotate_left
        · (intro w' hSw; (try dsimp only at hSw); go_simp; all_goals with_reducible rfl)
        try simp only [Act.put, List.setIfInBounds_toArray, List.set_cons_zero, List.set_cons_succ]
        refine AnyTo.one (i := 5) rfl (by kernel_rfl) (fun Kn hKn => ?_)
        go_simp
        go_at_call 92
        refine (c_pick g _ 3 _ (by exact (S3.out.below ((Below.refl _ _).drew)).cur) (by omega) (by omega)).mono ?_
        rintro e w4 ⟨⟨p0, rfl, hp0, hp1⟩, hc, hg⟩
        have S4 := hid ((S3.out.below ((Below.refl _ _).drew)).step hc hg)
        have m0 := S4.out.own.cell (k := 0) (by omega)
        rw [hv0] at m0
        have f0 := S4.out.own.frozen (k := 0)
        have hzx := (S4.out.own.lt z rfl).2
        clear hc hg hp0 hp1 hHeld
        refine hKn.out _ _ m0 (fun hHeld => ?_)
        clear hKn Kn
        try simp only [Act.put, List.setIfInBounds_toArray, List.set_cons_zero, List.set_cons_succ]
        refine AnyTo.take (i := 6) (v := ?_) rfl (by kernel_rfl) (by kernel_rfl) (by kernel_rfl) (by kernel_rfl) (fun _ _ _ h => h) (Or.inl ⟨by rfl, ?_⟩) (by assumption) ?_
        rotate_left
        · (intro w' hSw; (try dsimp only at hSw); go_simp; all_goals with_reducible rfl)
        try simp only [Act.put, List.setIfInBounds_toArray, List.set_cons_zero, List.set_cons_succ]
        refine AnyTo.take (i := 7) (v := ?_) rfl (by kernel_rfl) (by kernel_rfl) (by kernel_rfl) (by kernel_rfl) (fun _ _ _ h => h) (Or.inl ⟨by rfl, ?_⟩) (by assumption) ?_
        rotate_left
        · (intro w' hSw; (try dsimp only at hSw); go_simp; all_goals with_reducible rfl)
        try simp only [Act.put, List.setIfInBounds_toArray, List.set_cons_zero, List.set_cons_succ]
        refine AnyTo.take (i := 8) (v := ?_) rfl (by kernel_rfl) (by kernel_rfl) (by kernel_rfl) (by kernel_rfl) (fun _ _ _ h => h) (Or.inl ⟨by rfl, ?_⟩) (by assumption) ?_
        rotate_left
        · (intro w' hSw; (try dsimp only at hSw); go_simp; all_goals with_reducible rfl)
        try simp only [Act.put, List.setIfInBounds_toArray, List.set_cons_zero, List.set_cons_succ]
        refine AnyTo.last rfl (by kernel_rfl) (by kernel_rfl) (fun Kn hKn => ?_)
        go_simp
        refine hKn.out _ _ ?_
        clear hKn Kn
        try simp only [Act.put, List.setIfInBounds_toArray, List.set_cons_zero, List.set_cons_succ]
        refine NoPanic.normal ?_
        clear hHeld
        have S5 := hid (S4.out.set 0 (IntKind.i64.wrap (IntKind.i64.wrap (v0 + p0) - 1)))
        clear m0 f0 hzx hv0
        go_upto_region 8 with fail
        generalize w4.setCell ⟨z, 0, none⟩ (.int .i64 (IntKind.i64.wrap (IntKind.i64.wrap (v0 + p0) - 1))) = w5 at *
        generalize R.set 0 (IntKind.i64.wrap (IntKind.i64.wrap (v0 + p0) - 1)) = R5 at *
        obtain ⟨v1, hv1⟩ : ∃ v, (R5)[1]?.getD 0 = v := ⟨_, rfl⟩
        have m0 := S5.out.own.cell (k := 1) (by omega)
        rw [hv1] at m0
        refine wp_region_noPanic ?_
        refine wp_region_to (fun w' => w'.cell? ⟨z, 1, none⟩ = some (.int .i64 v1)) 9 (by kernel_rfl) (by exact m0) (fun hHeld => ?_)
        refine AnyTo.take (i := 0) (v := ?_) rfl (by kernel_rfl) (by kernel_rfl) (by kernel_rfl) (by kernel_rfl) (fun _ _ _ h => h) (Or.inl ⟨by rfl, ?_⟩) (by assumption) ?_
        rotate_left
        · (intro w' hSw; (try dsimp only at hSw); go_simp; all_goals with_reducible rfl)
        try simp only [Act.put, List.setIfInBounds_toArray, List.set_cons_zero, List.set_cons_succ]
        refine AnyTo.take (i := 1) (v := ?_) rfl (by kernel_rfl) (by kernel_rfl) (by kernel_rfl) (by kernel_rfl) (fun _ _ _ h => h) (Or.inl ⟨by rfl, ?_⟩) (by assumption) ?_
        rotate_left
        · (intro w' hSw; (try dsimp only at hSw); go_simp; all_goals with_reducible rfl)
        try simp only [Act.put, List.setIfInBounds_toArray, List.set_cons_zero, List.set_cons_succ]
        refine AnyTo.take (i := 2) (v := ?_) rfl (by kernel_rfl) (by kernel_rfl) (by kernel_rfl) (by kernel_rfl) (fun _ _ _ h => h) (Or.inl ⟨by rfl, ?_⟩) (by assumption) ?_
        rotate_left
        · (intro w' hSw; (try dsimp only at hSw); go_simp; all_goals with_reducible rfl)
        try simp only [Act.put, List.setIfInBounds_toArray, List.set_cons_zero, List.set_cons_succ]
        refine AnyTo.take (i := 3) (v := ?_) rfl (by kernel_rfl) (by kernel_rfl) (by kernel_rfl) (by kernel_rfl) (fun _ _ _ h => h) (Or.inl ⟨by rfl, ?_⟩) (by assumption) ?_
        rotate_left
        · (intro w' hSw; (try dsimp only at hSw); go_simp; all_goals with_reducible rfl)
        try simp only [Act.put, List.setIfInBounds_toArray, List.set_cons_zero, List.set_cons_succ]
        refine AnyTo.take (i := 4) (v := ?_) rfl (by kernel_rfl) (by kernel_rfl) (by kernel_rfl) (by kernel_rfl) (fun _ _ _ h => h) (Or.inl ⟨by rfl, ?_⟩) (by assumption) ?_
        rotate_left
        · (intro w' hSw; (try dsimp only at hSw); go_simp; all_goals with_reducible rfl)
        try simp only [Act.put, List.setIfInBounds_toArray, List.set_cons_zero, List.set_cons_succ]
        refine AnyTo.one (i := 5) rfl (by kernel_rfl) (fun Kn hKn => ?_)
        go_simp
        go_at_call 92
        refine (c_pick g _ 3 _ (by exact (S5.out.below ((Below.refl _ _).drew)).cur) (by omega) (by omega)).mono ?_
        rintro e w6 ⟨⟨p1, rfl, hp0, hp1⟩, hc, hg⟩
        have S6 := hid ((S5.out.below ((Below.refl _ _).drew)).step hc hg)
        have m0 := S6.out.own.cell (k := 1) (by omega)
        rw [hv1] at m0
        have f0 := S6.out.own.frozen (k := 1)
        have hzx := (S6.out.own.lt z rfl).2
        clear hc hg hp0 hp1 hHeld
        refine hKn.out _ _ m0 (fun hHeld => ?_)
        clear hKn Kn
        try simp only [Act.put, List.setIfInBounds_toArray, List.set_cons_zero, List.set_cons_succ]
        refine AnyTo.take (i := 6) (v := ?_) rfl (by kernel_rfl) (by kernel_rfl) (by kernel_rfl) (by kernel_rfl) (fun _ _ _ h => h) (Or.inl ⟨by rfl, ?_⟩) (by assumption) ?_
        rotate_left
        · (intro w' hSw; (try dsimp only at hSw); go_simp; all_goals with_reducible rfl)
        try simp only [Act.put, List.setIfInBounds_toArray, List.set_cons_zero, List.set_cons_succ]
        refine AnyTo.take (i := 7) (v := ?_) rfl (by kernel_rfl) (by kernel_rfl) (by kernel_rfl) (by kernel_rfl) (fun _ _ _ h => h) (Or.inl ⟨by rfl, ?_⟩) (by assumption) ?_
        rotate_left
        · (intro w' hSw; (try dsimp only at hSw); go_simp; all_goals with_reducible rfl)
        try simp only [Act.put, List.setIfInBounds_toArray, List.set_cons_zero, List.set_cons_succ]
        refine AnyTo.take (i := 8) (v := ?_) rfl (by kernel_rfl) (by kernel_rfl) (by kernel_rfl) (by kernel_rfl) (fun _ _ _ h => h) (Or.inl ⟨by rfl, ?_⟩) (by assumption) ?_
        rotate_left
        · (intro w' hSw; (try dsimp only at hSw); go_simp; all_goals with_reducible rfl)
        try simp only [Act.put, List.setIfInBounds_toArray, List.set_cons_zero, List.set_cons_succ]
        refine AnyTo.last rfl (by kernel_rfl) (by kernel_rfl) (fun Kn hKn => ?_)
        go_simp
        refine hKn.out _ _ ?_
        clear hKn Kn
        try simp only [Act.put, List.setIfInBounds_toArray, List.set_cons_zero, List.set_cons_succ]
        refine NoPanic.normal ?_
        clear hHeld
        have S7 := hid (S6.out.set 1 (IntKind.i64.wrap (IntKind.i64.wrap (v1 + p1) - 1)))
        clear m0 f0 hzx hv1
        go_upto_region 9 with fail
        generalize w6.setCell ⟨z, 1, none⟩ (.int .i64 (IntKind.i64.wrap (IntKind.i64.wrap (v1 + p1) - 1))) = w7 at *
        go_wp2
        go_ret2
        exact ⟨a, n, c, L, _, M, _, _, rfl, ⟨⟨S7.out.ia, hn⟩, S7.out.own.at, by omega⟩, S7.out.bel⟩
    · have hleni : ¬ (1 : Int) < (M : Int) := by omega
      go_wp2
      go_ret2
      exact ⟨a, n, c, L, a2, M, ⟨c2, rfl⟩, ⟨⟨I2.out, hn⟩, ⟨R, O2.out.at⟩, by omega⟩, B2.out⟩

end Go.Proofs.Ytpmffboojkfpdaa

/-
  Pipes: four whole numbers.
-/
set_option linter.unusedVariables false
set_option linter.unusedSimpArgs false
namespace Go.Proofs.Ytpmffboojkfpdaa
open Go.RowKit

/-- Id, from, to, size. -/
abbrev Pip := Int × Int × Int × Int
def qf (p : Pip) : List Value := [.int .i64 p.1, .int .i64 p.2.1, .int .i64 p.2.2.1, .int .i64 p.2.2.2]
theorem qf_len (p : Pip) : (qf p).length = 4 := rfl
theorem qf_one (p : Pip) : ∀ u ∈ qf p, u.oneCell' = true := by intro u hu; simp [qf] at hu; rcases hu with rfl | rfl | rfl | rfl <;> rfl
abbrev QAt (w : World) (a : Option Addr) (n : Nat) (l : List Pip) : Prop := SAt qf 4 w a n l
abbrev OwnQ (w : World) (B : Nat) (v : Value) (l : List Pip) : Prop := OwnS qf 4 99 w B v l
def pp (l : List Pip) (k : Nat) : Pip := l[k]?.getD (0, 0, 0, 0)
theorem QAt.get {w : World} {a : Option Addr} {n : Nat} {l : List Pip} (h : QAt w a n l) (k : Nat) (hk : k < n) :
    ∃ b off, a = some ⟨b, off, none⟩ ∧ b < w.heap.size ∧ w.cell? ⟨b, off + k * 4, none⟩ = some (.int .i64 (pp l k).1) ∧ w.cell? ⟨b, off + k * 4 + 1, none⟩ = some (.int .i64 (pp l k).2.1) ∧
      w.cell? ⟨b, off + k * 4 + 2, none⟩ = some (.int .i64 (pp l k).2.2.1) ∧ w.cell? ⟨b, off + k * 4 + 3, none⟩ = some (.int .i64 (pp l k).2.2.2) := by
  obtain ⟨b, off, h1, h2, h3⟩ := h.2 k hk
  exact ⟨b, off, h1, h2, h3 0 (by decide), h3 1 (by decide), h3 2 (by decide), h3 3 (by decide)⟩

end Go.Proofs.Ytpmffboojkfpdaa

/-
  Networks: which are valid.
-/
set_option linter.unusedVariables false
set_option linter.unusedSimpArgs false
namespace Go.Proofs.Ytpmffboojkfpdaa
open Go.RowKit

/-- A pipe is valid, in itself; and at its place. -/
def okPipe (N : Int) (p : Pip) : Bool := inR p.1 1 99 && inR p.2.1 1 N && inR p.2.2.1 1 N && decide (p.2.1 ≠ p.2.2.1) && inR p.2.2.2 1 9
def okQ (N : Int) (l : List Pip) (k : Nat) : Bool := okPipe N (pp l k) && (decide (k = 0) || decide ((pp l (k - 1)).1 < (pp l k).1))
def goodNet (N : Int) (l : List Pip) : Bool := inR N 1 8 && decide (l.length ≤ 10) && (List.range l.length).all (okQ N l)
theorem goodNet_bad {N : Int} {l : List Pip} {k : Nat} (hk : k < l.length) (h : okQ N l k = false) : goodNet N l = false := by
  cases e : goodNet N l
  · rfl
  · simp only [goodNet, Bool.and_eq_true, List.all_eq_true, List.mem_range] at e
    rw [e.2 k hk] at h
    cases h
theorem goodNet_all {N : Int} {l : List Pip} (h1 : inR N 1 8 = true) (h2 : l.length ≤ 10) (h3 : ∀ k, k < l.length → okQ N l k = true) : goodNet N l = true := by
  simp only [goodNet, Bool.and_eq_true, List.all_eq_true, List.mem_range, decide_eq_true_eq]
  exact ⟨⟨h1, h2⟩, h3⟩
theorem goodNet_get {N : Int} {l : List Pip} (h : goodNet N l = true) : (1 ≤ N ∧ N ≤ 8) ∧ l.length ≤ 10 ∧ ∀ k, k < l.length → okQ N l k = true := by
  simp only [goodNet, Bool.and_eq_true, List.all_eq_true, List.mem_range, decide_eq_true_eq] at h
  exact ⟨inR_iff.1 h.1.1, h.1.2, h.2⟩
theorem okPipe_iff {N : Int} {p : Pip} : okPipe N p = true ↔ (1 ≤ p.1 ∧ p.1 ≤ 99) ∧ (1 ≤ p.2.1 ∧ p.2.1 ≤ N) ∧ (1 ≤ p.2.2.1 ∧ p.2.2.1 ≤ N) ∧ p.2.1 ≠ p.2.2.1 ∧ (1 ≤ p.2.2.2 ∧ p.2.2.2 ≤ 9) := by
  simp only [okPipe, Bool.and_eq_true, inR_iff, decide_eq_true_eq, and_assoc]
theorem goodNet_pipe {N : Int} {l : List Pip} (h : goodNet N l = true) {k : Nat} (hk : k < l.length) : (1 ≤ (pp l k).1 ∧ (pp l k).1 ≤ 99) ∧ (1 ≤ (pp l k).2.1 ∧ (pp l k).2.1 ≤ N) ∧ (1 ≤ (pp l k).2.2.1 ∧ (pp l k).2.2.1 ≤ N) ∧ (pp l k).2.1 ≠ (pp l k).2.2.1 ∧ (1 ≤ (pp l k).2.2.2 ∧ (pp l k).2.2.2 ≤ 9) := by
  have := (goodNet_get h).2.2 k hk
  simp only [okQ, Bool.and_eq_true] at this
  exact okPipe_iff.1 this.1
theorem all_nextN {p : Nat → Bool} {k : Nat} (h : ∀ j, j < k → p j = true) (hk : p k = true) : ∀ j, j < k + 1 → p j = true := fun j hj => by
  by_cases e : j = k
  · subst e; exact hk
  · exact h j (by omega)

theorem i_has (N x : Int) (a : Option Addr) (n c : Nat) (w : World) : Calls Try.prog 134 #[.agg #[.int .i64 N, .slice a n c], .int .i64 x] w fun e w' => e = .returned (.bool (inR x 1 N)) ∧ Below w.heap.size w w' := by
  go_enter Try.func134, Try.ntmps134
  go_wp2_with fail
  refine (i_inside _ _ _ _).mono ?_
  rintro e _ ⟨rfl, rfl⟩
  go_wp2
  go_ret
  exact ⟨rfl, by go_grown⟩

theorem s_l2Pipe (N p1 p2 p3 p4 : Int) (w : World) : Calls Try.prog 126 #[.int .i64 N, .agg #[.int .i64 p1, .int .i64 p2, .int .i64 p3, .int .i64 p4]] w fun e w' => e = .returned (.bool (okPipe N (p1, p2, p3, p4))) ∧ Below w.heap.size w w' := by
  cases c1 : inR p1 1 99
  · skip
    have E := hid (show false = okPipe N (p1, p2, p3, p4) by simp [okPipe, *])
    have H1 := hid c1
    clear c1
    go_enter Try.func126, Try.ntmps126
    go_wp2_with fail
    refine (s_l1In _ _ _ _).mono ?_
    rintro e _ ⟨rfl, rfl⟩
    rw [H1.out]
    go_wp2
    go_ret
    exact ⟨ret_bool E.out, by go_grown⟩
  · cases c2 : inR p2 1 N
    · skip
      have E := hid (show false = okPipe N (p1, p2, p3, p4) by simp [okPipe, *])
      have H1 := hid c1
      have H2 := hid c2
      clear c1 c2
      go_enter Try.func126, Try.ntmps126
      go_wp2_with fail
      refine (s_l1In _ _ _ _).mono ?_
      rintro e _ ⟨rfl, rfl⟩
      rw [H1.out]
      go_wp2_with fail
      refine (s_l1In _ _ _ _).mono ?_
      rintro e _ ⟨rfl, rfl⟩
      rw [H2.out]
      go_wp2
      go_ret
      exact ⟨ret_bool E.out, by go_grown⟩
    · cases c3 : inR p3 1 N
      · skip
        have E := hid (show false = okPipe N (p1, p2, p3, p4) by simp [okPipe, *])
        have H1 := hid c1
        have H2 := hid c2
        have H3 := hid c3
        clear c1 c2 c3
        go_enter Try.func126, Try.ntmps126
        go_wp2_with fail
        refine (s_l1In _ _ _ _).mono ?_
        rintro e _ ⟨rfl, rfl⟩
        rw [H1.out]
        go_wp2_with fail
        refine (s_l1In _ _ _ _).mono ?_
        rintro e _ ⟨rfl, rfl⟩
        rw [H2.out]
        go_wp2_with fail
        refine (s_l1In _ _ _ _).mono ?_
        rintro e _ ⟨rfl, rfl⟩
        rw [H3.out]
        go_wp2
        go_ret
        exact ⟨ret_bool E.out, by go_grown⟩
      · by_cases c4 : p2 = p3
        · subst c4
          have E := hid (show false = okPipe N (p1, p2, p2, p4) by simp [okPipe, *])
          have H1 := hid c1
          have H2 := hid c2
          have H3 := hid c3
          clear c1 c2 c3
          go_enter Try.func126, Try.ntmps126
          go_wp2_with fail
          refine (s_l1In _ _ _ _).mono ?_
          rintro e _ ⟨rfl, rfl⟩
          rw [H1.out]
          go_wp2_with fail
          refine (s_l1In _ _ _ _).mono ?_
          rintro e _ ⟨rfl, rfl⟩
          rw [H2.out]
          go_wp2_with fail
          refine (s_l1In _ _ _ _).mono ?_
          rintro e _ ⟨rfl, rfl⟩
          rw [H3.out]
          go_wp2
          go_ret
          exact ⟨ret_bool E.out, by go_grown⟩
        · cases c5 : inR p4 1 9
          · skip
            have E := hid (show false = okPipe N (p1, p2, p3, p4) by simp [okPipe, *])
            have H1 := hid c1
            have H2 := hid c2
            have H3 := hid c3
            have H5 := hid c5
            clear c1 c2 c3 c5
            go_enter Try.func126, Try.ntmps126
            go_wp2_with fail
            refine (s_l1In _ _ _ _).mono ?_
            rintro e _ ⟨rfl, rfl⟩
            rw [H1.out]
            go_wp2_with fail
            refine (s_l1In _ _ _ _).mono ?_
            rintro e _ ⟨rfl, rfl⟩
            rw [H2.out]
            go_wp2_with fail
            refine (s_l1In _ _ _ _).mono ?_
            rintro e _ ⟨rfl, rfl⟩
            rw [H3.out]
            go_wp2_with fail
            refine (s_l1In _ _ _ _).mono ?_
            rintro e _ ⟨rfl, rfl⟩
            rw [H5.out]
            go_wp2
            go_ret
            exact ⟨ret_bool E.out, by go_grown⟩
          · skip
            have E := hid (show true = okPipe N (p1, p2, p3, p4) by simp [okPipe, *])
            have H1 := hid c1
            have H2 := hid c2
            have H3 := hid c3
            have H5 := hid c5
            clear c1 c2 c3 c5
            go_enter Try.func126, Try.ntmps126
            go_wp2_with fail
            refine (s_l1In _ _ _ _).mono ?_
            rintro e _ ⟨rfl, rfl⟩
            rw [H1.out]
            go_wp2_with fail
            refine (s_l1In _ _ _ _).mono ?_
            rintro e _ ⟨rfl, rfl⟩
            rw [H2.out]
            go_wp2_with fail
            refine (s_l1In _ _ _ _).mono ?_
            rintro e _ ⟨rfl, rfl⟩
            rw [H3.out]
            go_wp2_with fail
            refine (s_l1In _ _ _ _).mono ?_
            rintro e _ ⟨rfl, rfl⟩
            rw [H5.out]
            go_wp2
            go_ret
            exact ⟨ret_bool (by rw [← E.out]; simpa using c4), by go_grown⟩

abbrev NetI (w wr : World) (N : Int) (b0 off0 n c k : Nat) (l : List Pip) (w' : World) : Prop := Below w.heap.size w w' ∧ w'.cell? ⟨w.heap.size, 0, none⟩ = some (.int .i64 N) ∧ w'.cell? ⟨w.heap.size, 1, none⟩ = some (.slice (some ⟨b0, off0, none⟩) n c) ∧ w'.cell? ⟨wr.heap.size, 0, none⟩ = some (.int .i64 (pp l k).1) ∧ w'.cell? ⟨wr.heap.size, 1, none⟩ = some (.int .i64 (pp l k).2.1) ∧ w'.cell? ⟨wr.heap.size, 2, none⟩ = some (.int .i64 (pp l k).2.2.1) ∧ w'.cell? ⟨wr.heap.size, 3, none⟩ = some (.int .i64 (pp l k).2.2.2) ∧ w'.cell? ⟨b0, off0 + (k - 1) * 4, none⟩ = some (.int .i64 (pp l (k - 1)).1)
theorem NetI.keep (w wr : World) (N : Int) (b0 off0 n c k : Nat) (l : List Pip) (wy w5 : World) (h : NetI w wr N b0 off0 n c k l wy) (hb : Below wy.heap.size wy w5) : NetI w wr N b0 off0 n c k l w5 :=
  let ⟨h0, x0, x1, x2, x3, x4, x5, x6⟩ := h
  ⟨bstep h0 hb, (hb.cell (World.block_lt_of_cell? wy _ x0)).trans x0, (hb.cell (World.block_lt_of_cell? wy _ x1)).trans x1, (hb.cell (World.block_lt_of_cell? wy _ x2)).trans x2, (hb.cell (World.block_lt_of_cell? wy _ x3)).trans x3, (hb.cell (World.block_lt_of_cell? wy _ x4)).trans x4, (hb.cell (World.block_lt_of_cell? wy _ x5)).trans x5, (hb.cell (World.block_lt_of_cell? wy _ x6)).trans x6⟩

abbrev NetS (w : World) (N : Int) (b0 off0 n c k : Nat) (l : List Pip) (w' : World) : Prop := Below w.heap.size w w' ∧ w'.cell? ⟨w.heap.size, 0, none⟩ = some (.int .i64 N) ∧ w'.cell? ⟨w.heap.size, 1, none⟩ = some (.slice (some ⟨b0, off0, none⟩) n c) ∧ w'.cell? ⟨b0, off0 + k * 4, none⟩ = some (.int .i64 (pp l k).1) ∧ w'.cell? ⟨b0, off0 + k * 4 + 1, none⟩ = some (.int .i64 (pp l k).2.1) ∧ w'.cell? ⟨b0, off0 + k * 4 + 2, none⟩ = some (.int .i64 (pp l k).2.2.1) ∧ w'.cell? ⟨b0, off0 + k * 4 + 3, none⟩ = some (.int .i64 (pp l k).2.2.2) ∧ w'.cell? ⟨b0, off0 + (k - 1) * 4, none⟩ = some (.int .i64 (pp l (k - 1)).1)
theorem NetS.keep (w : World) (N : Int) (b0 off0 n c k : Nat) (l : List Pip) (wy w5 : World) (h : NetS w N b0 off0 n c k l wy) (hb : Below wy.heap.size wy w5) : NetS w N b0 off0 n c k l w5 :=
  let ⟨h0, x0, x1, x2, x3, x4, x5, x6⟩ := h
  ⟨bstep h0 hb, (hb.cell (World.block_lt_of_cell? wy _ x0)).trans x0, (hb.cell (World.block_lt_of_cell? wy _ x1)).trans x1, (hb.cell (World.block_lt_of_cell? wy _ x2)).trans x2, (hb.cell (World.block_lt_of_cell? wy _ x3)).trans x3, (hb.cell (World.block_lt_of_cell? wy _ x4)).trans x4, (hb.cell (World.block_lt_of_cell? wy _ x5)).trans x5, (hb.cell (World.block_lt_of_cell? wy _ x6)).trans x6⟩

end Go.Proofs.Ytpmffboojkfpdaa

/-
  Networks: how far nodes are from one another, in plain lists.
-/
set_option linter.unusedVariables false
set_option linter.unusedSimpArgs false
namespace Go.Proofs.Ytpmffboojkfpdaa
open Go.RowKit

/-- The end of a pipe that is not a node, 0 if the node is none of its ends. -/
def oth (p : Pip) (v : Int) : Int := if v = p.2.1 then p.2.2.1 else if v = p.2.2.1 then p.2.1 else 0
/-- A pipe, not the one left out, leads from a node to another one. -/
def Edge (l : List Pip) (wo u v : Int) : Prop := ∃ k, k < l.length ∧ (pp l k).1 ≠ wo ∧ oth (pp l k) u = v ∧ 0 < v

theorem okQ_ends {N : Int} {l : List Pip} {k : Nat} (hg : goodNet N l = true) (hk : k < l.length) {u v : Int} (h : oth (pp l k) u = v) (hv : 0 < v) : (1 ≤ u ∧ u ≤ N) ∧ (1 ≤ v ∧ v ≤ N) ∧ u ≠ v ∧ oth (pp l k) v = u := by
  obtain ⟨-, h2, h3, h4, -⟩ := goodNet_pipe hg hk
  unfold oth at h ⊢
  split at h
  · rename_i e
    subst e h
    refine ⟨h2, h3, h4, ?_⟩
    rw [if_neg (fun e => h4 e.symm), if_pos rfl]
  · split at h
    · rename_i e1 e2
      subst e2 h
      refine ⟨h3, h2, fun e => h4 e.symm, ?_⟩
      rw [if_pos rfl]
    · omega
theorem Edge.symm {N : Int} {l : List Pip} {wo u v : Int} (hg : goodNet N l = true) (h : Edge l wo u v) : Edge l wo v u := by
  obtain ⟨k, hk, h1, h2, h3⟩ := h
  obtain ⟨a, b, c, d⟩ := okQ_ends hg hk h2 h3
  exact ⟨k, hk, h1, d, by omega⟩
theorem Edge.ends {N : Int} {l : List Pip} {wo u v : Int} (hg : goodNet N l = true) (h : Edge l wo u v) : (1 ≤ u ∧ u ≤ N) ∧ (1 ≤ v ∧ v ≤ N) ∧ u ≠ v := by
  obtain ⟨k, hk, h1, h2, h3⟩ := h
  obtain ⟨a, b, c, d⟩ := okQ_ends hg hk h2 h3
  exact ⟨a, b, c⟩

/-- A function gives how far each node is from one, -1 where there is no way. -/
structure IsDist (N : Int) (l : List Pip) (wo s : Int) (f : Int → Int) : Prop where
  low : ∀ v, 1 ≤ v → v ≤ N → -1 ≤ f v
  self : f s = 0
  only : ∀ v, 1 ≤ v → v ≤ N → f v = 0 → v = s
  back : ∀ v, 1 ≤ v → v ≤ N → 0 < f v → ∃ u, Edge l wo u v ∧ f u = f v - 1
  step : ∀ u v, Edge l wo u v → 0 ≤ f u → 0 ≤ f v ∧ f v ≤ f u + 1

theorem IsDist.le {N : Int} {l : List Pip} {wo s : Int} {f g : Int → Int} (hgn : goodNet N l = true) (hf : IsDist N l wo s f) (hg : IsDist N l wo s g) :
    ∀ (d : Nat) (v : Int), 1 ≤ v → v ≤ N → f v = d → 0 ≤ g v ∧ g v ≤ d
  | 0, v, h1, h2, h => by
    have := hf.only v h1 h2 (by simpa using h)
    subst this
    have := hg.self
    omega
  | d + 1, v, h1, h2, h => by
    obtain ⟨u, he, hu⟩ := hf.back v h1 h2 (by omega)
    obtain ⟨⟨u1, u2⟩, -, -⟩ := he.ends hgn
    have ih := IsDist.le hgn hf hg d u u1 u2 (by omega)
    have := hg.step u v he ih.1
    omega
theorem IsDist.unique {N : Int} {l : List Pip} {wo s : Int} {f g : Int → Int} (hgn : goodNet N l = true) (hf : IsDist N l wo s f) (hg : IsDist N l wo s g) (v : Int) (h1 : 1 ≤ v) (h2 : v ≤ N) : f v = g v := by
  have a := hf.low v h1 h2
  have b := hg.low v h1 h2
  by_cases hfv : 0 ≤ f v
  · have c := IsDist.le hgn hf hg (f v).toNat v h1 h2 (by omega)
    have d := IsDist.le hgn hg hf (g v).toNat v h1 h2 (by omega)
    omega
  · by_cases hgv : 0 ≤ g v
    · have d := IsDist.le hgn hg hf (g v).toNat v h1 h2 (by omega)
      omega
    · omega

/-- What is closed and holds the node holds all that can be reached. -/
theorem IsDist.reach {N : Int} {l : List Pip} {wo s : Int} {f : Int → Int} (hgn : goodNet N l = true) (hf : IsDist N l wo s f) {R : Int → Prop} (hs : R s) (hc : ∀ u v, Edge l wo u v → R u → R v) :
    ∀ (d : Nat) (v : Int), 1 ≤ v → v ≤ N → f v = d → R v
  | 0, v, h1, h2, h => by
    have := hf.only v h1 h2 (by simpa using h)
    subst this
    exact hs
  | d + 1, v, h1, h2, h => by
    obtain ⟨u, he, hu⟩ := hf.back v h1 h2 (by omega)
    obtain ⟨⟨u1, u2⟩, -, -⟩ := he.ends hgn
    exact hc u v he (IsDist.reach hgn hf hs hc d u u1 u2 (by omega))

/-- A way of some length. -/
def Way (l : List Pip) (wo s : Int) : Nat → Int → Prop
  | 0, v => v = s
  | k + 1, v => ∃ u, Way l wo s k u ∧ Edge l wo u v
theorem least {p : Nat → Prop} (h : ∃ n, p n) : ∃ n, p n ∧ ∀ m, m < n → ¬ p m := by
  obtain ⟨n, hn⟩ := h
  induction n using Nat.strongRecOn with
  | _ n ih =>
    by_cases hq : ∃ m, m < n ∧ p m
    · obtain ⟨m, hm, hp⟩ := hq
      exact ih m hm hp
    · exact ⟨n, hn, fun m hm hp => hq ⟨m, hm, hp⟩⟩
/-- How far a node is. -/
noncomputable def far (l : List Pip) (wo s v : Int) : Int := by
  classical
  exact if h : ∃ n, Way l wo s n v then ((Classical.choose (least h) : Nat) : Int) else -1
theorem far_way {l : List Pip} {wo s v : Int} {n : Nat} (h : Way l wo s n v) : ∃ m : Nat, m ≤ n ∧ far l wo s v = m ∧ Way l wo s m v ∧ ∀ k, k < m → ¬ Way l wo s k v := by
  have hx : ∃ n, Way l wo s n v := ⟨n, h⟩
  obtain ⟨a, b⟩ := Classical.choose_spec (least hx)
  refine ⟨Classical.choose (least hx), ?_, ?_, a, b⟩
  · apply Classical.byContradiction
    intro hn
    exact b n (by omega) h
  · unfold far
    rw [dif_pos hx]
theorem far_none {l : List Pip} {wo s v : Int} (h : ¬ ∃ n, Way l wo s n v) : far l wo s v = -1 := by
  unfold far
  rw [dif_neg h]
theorem far_some {l : List Pip} {wo s v : Int} (h : 0 ≤ far l wo s v) : ∃ m : Nat, far l wo s v = m ∧ Way l wo s m v ∧ ∀ k, k < m → ¬ Way l wo s k v := by
  by_cases hx : ∃ n, Way l wo s n v
  · obtain ⟨n, hn⟩ := hx
    obtain ⟨m, -, a, b, c⟩ := far_way hn
    exact ⟨m, a, b, c⟩
  · rw [far_none hx] at h
    omega
theorem far_is {N : Int} {l : List Pip} {wo s : Int} (hgn : goodNet N l = true) : IsDist N l wo s (far l wo s) where
  low v _ _ := by
    by_cases hx : ∃ n, Way l wo s n v
    · obtain ⟨n, hn⟩ := hx
      obtain ⟨m, -, a, -⟩ := far_way hn
      omega
    · rw [far_none hx]; omega
  self := by
    obtain ⟨m, hm, a, -⟩ := far_way (l := l) (wo := wo) (s := s) (v := s) (n := 0) rfl
    omega
  only v _ _ h := by
    obtain ⟨m, a, b, -⟩ := far_some (l := l) (wo := wo) (s := s) (v := v) (by omega)
    obtain rfl : m = 0 := by omega
    exact b
  back v _ _ h := by
    obtain ⟨m, a, b, c⟩ := far_some (l := l) (wo := wo) (s := s) (v := v) (by omega)
    match m, b with
    | 0, _ => omega
    | m + 1, ⟨u, hu, he⟩ =>
      refine ⟨u, he, ?_⟩
      obtain ⟨k, hk, ak, bk, ck⟩ := far_way hu
      have : k = m := by
        apply Classical.byContradiction
        intro hn
        exact c (k + 1) (by omega) ⟨u, bk, he⟩
      omega
  step u v he h := by
    obtain ⟨m, a, b, c⟩ := far_some h
    obtain ⟨k, hk, ak, -⟩ := far_way (n := m + 1) (l := l) (wo := wo) (s := s) (v := v) ⟨u, b, he⟩
    omega

end Go.Proofs.Ytpmffboojkfpdaa

/-
  Networks: the search that labels nodes, round by round, in plain lists.
-/
set_option linter.unusedVariables false
set_option linter.unusedSimpArgs false
namespace Go.Proofs.Ytpmffboojkfpdaa
open Go.RowKit

/-- A node's label. -/
def lab (f : List Int) (v : Int) : Int := f[v.toNat]?.getD 0
theorem lab_set {f : List Int} {N x v y : Int} (hl : f.length = N.toNat + 1) (hx : 0 ≤ x ∧ x ≤ N) (hv : 0 ≤ v) : lab (f.set x.toNat y) v = if v = x then y else lab f v := by
  unfold lab
  by_cases e : v = x
  · subst e
    rw [List.getElem?_set_self (by omega), if_pos rfl]
    rfl
  · rw [List.getElem?_set_ne (by omega), if_neg e]
/-- The first one that waits. -/
def hd (q : List Int) : Int := q[0]?.getD 0

/-- While the first waiting node is looked at: some pipes have been gone through. -/
structure Mid (N : Int) (l : List Pip) (wo s : Int) (f q : List Int) (k : Nat) : Prop where
  len : f.length = N.toNat + 1
  zero : lab f 0 = -1
  low : ∀ v, 1 ≤ v → v ≤ N → -1 ≤ lab f v
  self : lab f s = 0
  only : ∀ v, 1 ≤ v → v ≤ N → lab f v = 0 → v = s
  back : ∀ v, 1 ≤ v → v ≤ N → 0 < lab f v → ∃ u, Edge l wo u v ∧ lab f u = lab f v - 1
  ne : 0 < q.length
  qin : ∀ x ∈ q, (1 ≤ x ∧ x ≤ N) ∧ 0 ≤ lab f x
  sorted : ∀ i j, i ≤ j → j < q.length → lab f (q[i]?.getD 0) ≤ lab f (q[j]?.getD 0)
  top : ∀ v, 1 ≤ v → v ≤ N → lab f v ≤ lab f (hd q) + 1
  done : ∀ v, 1 ≤ v → v ≤ N → 0 ≤ lab f v → v ∉ q → (∀ u, Edge l wo v u → 0 ≤ lab f u ∧ lab f u ≤ lab f v + 1) ∧ lab f v ≤ lab f (hd q)
  part : ∀ j, j < k → (pp l j).1 ≠ wo → 0 < oth (pp l j) (hd q) → 0 ≤ lab f (oth (pp l j) (hd q))

theorem Mid.head {N : Int} {l : List Pip} {wo s : Int} {f q : List Int} {k : Nat} (h : Mid N l wo s f q k) : hd q ∈ q ∧ (1 ≤ hd q ∧ hd q ≤ N) ∧ 0 ≤ lab f (hd q) := by
  have hm : hd q ∈ q := by
    unfold hd
    rw [List.getElem?_eq_getElem h.ne]
    exact List.getElem_mem h.ne
  exact ⟨hm, h.qin _ hm⟩
theorem Mid.no {N : Int} {l : List Pip} {wo s : Int} {f q : List Int} {k : Nat} (h : Mid N l wo s f q k) (hn : (pp l k).1 ≠ wo → 0 < oth (pp l k) (hd q) → 0 ≤ lab f (oth (pp l k) (hd q))) : Mid N l wo s f q (k + 1) :=
  ⟨h.len, h.zero, h.low, h.self, h.only, h.back, h.ne, h.qin, h.sorted, h.top, h.done, fun j hj => by
    by_cases e : j = k
    · subst e; exact hn
    · exact h.part j (by omega)⟩
theorem hd_app (q : List Int) (x : Int) (h : 0 < q.length) : hd (q ++ [x]) = hd q := by
  unfold hd
  rw [List.getElem?_append_left h]
theorem Mid.yes {N : Int} {l : List Pip} {wo s : Int} {f q : List Int} {k : Nat} {tv : Int} (hg : goodNet N l = true) (h : Mid N l wo s f q k) (hk : k < l.length) (hw : (pp l k).1 ≠ wo) (ht : oth (pp l k) (hd q) = tv) (hp : 0 < tv) (hl : lab f tv < 0) :
    Mid N l wo s (f.set tv.toNat (lab f (hd q) + 1)) (q ++ [tv]) (k + 1) := by
  obtain ⟨hm, hh, hh0⟩ := h.head
  have he : Edge l wo (hd q) tv := ⟨k, hk, hw, ht, hp⟩
  obtain ⟨-, ⟨t1, t2⟩, hne⟩ := he.ends hg
  have L : ∀ v, 0 ≤ v → lab (f.set tv.toNat (lab f (hd q) + 1)) v = if v = tv then lab f (hd q) + 1 else lab f v := fun v hv => lab_set h.len ⟨by omega, t2⟩ hv
  have Lh : lab (f.set tv.toNat (lab f (hd q) + 1)) (hd q) = lab f (hd q) := by rw [L _ (by omega), if_neg hne]
  have hqt : ∀ x ∈ q, x ≠ tv := fun x hx e => by have := (h.qin x hx).2; rw [e] at this; omega
  have hst : s ≠ tv := fun e => by have := h.self; rw [e] at this; omega
  have hs0 : 0 ≤ s ∨ s < 0 := by omega
  have Lq : ∀ i, i < q.length → lab (f.set tv.toNat (lab f (hd q) + 1)) (q[i]?.getD 0) = lab f (q[i]?.getD 0) := fun i hi => by
    have hmem : q[i]?.getD 0 ∈ q := by rw [List.getElem?_eq_getElem hi]; exact List.getElem_mem hi
    rw [L _ (by have := (h.qin _ hmem).1; omega), if_neg (hqt _ hmem)]
  refine ⟨by simp [h.len], ?_, ?_, ?_, ?_, ?_, by simp, ?_, ?_, ?_, ?_, ?_⟩
  · rw [L 0 (by omega), if_neg (by omega)]; exact h.zero
  · intro v h1 h2
    rw [L v (by omega)]
    split
    · omega
    · exact h.low v h1 h2
  · unfold lab at *
    rw [List.getElem?_set_ne]
    · exact h.self
    · intro e
      have h0 := h.self
      have hl' := hl
      simp only [lab] at h0
      rw [← e] at h0
      omega
  · intro v h1 h2 h3
    rw [L v (by omega)] at h3
    split at h3
    · omega
    · exact h.only v h1 h2 h3
  · intro v h1 h2 h3
    rw [L v (by omega)] at h3 ⊢
    split at h3
    · rename_i e
      subst e
      rw [if_pos rfl]
      exact ⟨hd q, he, by rw [Lh]; omega⟩
    · rename_i e
      rw [if_neg e]
      obtain ⟨u, hu, hu2⟩ := h.back v h1 h2 h3
      obtain ⟨⟨u1, u2⟩, -, -⟩ := hu.ends hg
      refine ⟨u, hu, ?_⟩
      rw [L u (by omega)]
      split
      · rename_i e2
        rw [e2] at hu2
        omega
      · exact hu2
  · intro x hx
    rw [List.mem_append, List.mem_singleton] at hx
    rcases hx with hx | rfl
    · refine ⟨(h.qin x hx).1, ?_⟩
      rw [L x (by have := (h.qin x hx).1; omega), if_neg (hqt x hx)]
      exact (h.qin x hx).2
    · refine ⟨⟨t1, t2⟩, ?_⟩
      rw [L _ (by omega), if_pos rfl]
      omega
  · intro i j hij hj
    rw [List.length_append] at hj
    simp only [List.length_singleton] at hj
    by_cases hjq : j < q.length
    · rw [List.getElem?_append_left hjq, List.getElem?_append_left (by omega), Lq i (by omega), Lq j hjq]
      exact h.sorted i j hij hjq
    · obtain rfl : j = q.length := by omega
      have ej : (q ++ [tv])[q.length]?.getD 0 = tv := by simp
      rw [ej, L tv (by omega), if_pos rfl]
      by_cases hiq : i < q.length
      · rw [List.getElem?_append_left hiq, Lq i hiq]
        have hmem : q[i]?.getD 0 ∈ q := by rw [List.getElem?_eq_getElem hiq]; exact List.getElem_mem hiq
        have := (h.qin _ hmem).1
        exact h.top _ this.1 this.2
      · obtain rfl : i = q.length := by omega
        rw [ej, L tv (by omega), if_pos rfl]
        exact Int.le_refl _
  · intro v h1 h2
    rw [hd_app _ _ h.ne, Lh, L v (by omega)]
    split
    · omega
    · exact h.top v h1 h2
  · intro v h1 h2 h3 h4
    rw [List.mem_append, List.mem_singleton, not_or] at h4
    rw [L v (by omega), if_neg h4.2] at h3
    obtain ⟨a, b⟩ := h.done v h1 h2 h3 h4.1
    rw [hd_app _ _ h.ne, Lh, L v (by omega), if_neg h4.2]
    refine ⟨fun u hu => ?_, b⟩
    obtain ⟨-, ⟨u1, u2⟩, -⟩ := hu.ends hg
    have := a u hu
    rw [L u (by omega)]
    split
    · rename_i e; rw [e] at this; omega
    · exact this
  · intro j hj hwj hoj
    rw [hd_app _ _ h.ne] at hoj ⊢
    rw [L _ (by omega)]
    split
    · omega
    · rename_i e
      by_cases ejk : j = k
      · subst ejk; exact absurd ht e
      · exact h.part j (by omega) hwj hoj

/-- All pipes have been gone through: the first node is done. -/
theorem Mid.step {N : Int} {l : List Pip} {wo s : Int} {f q : List Int} (hg : goodNet N l = true) (h : Mid N l wo s f q l.length) (u : Int) (hu : Edge l wo (hd q) u) : 0 ≤ lab f u ∧ lab f u ≤ lab f (hd q) + 1 := by
  obtain ⟨-, ⟨u1, u2⟩, -⟩ := hu.ends hg
  have h2 := h.top u u1 u2
  obtain ⟨k, hk, hw, ho, hp⟩ := hu
  have := h.part k hk hw (by omega)
  rw [ho] at this
  exact ⟨this, h2⟩
theorem Mid.next {N : Int} {l : List Pip} {wo s x : Int} {f q : List Int} (hg : goodNet N l = true) (h : Mid N l wo s f (x :: q) l.length) (hq : 0 < q.length) : Mid N l wo s f q 0 := by
  have hx : hd (x :: q) = x := rfl
  have hmem : hd q ∈ q := by unfold hd; rw [List.getElem?_eq_getElem hq]; exact List.getElem_mem hq
  have hle : lab f x ≤ lab f (hd q) := by
    have := h.sorted 0 1 (by omega) (by simp; omega)
    simpa [hd] using this
  refine ⟨h.len, h.zero, h.low, h.self, h.only, h.back, hq, fun y hy => h.qin y (by simp [hy]), ?_, ?_, ?_, fun j hj => absurd hj (by omega)⟩
  · intro i j hij hj
    have := h.sorted (i + 1) (j + 1) (by omega) (by simp; omega)
    simpa using this
  · intro v h1 h2
    have := h.top v h1 h2
    rw [hx] at this
    omega
  · intro v h1 h2 h3 h4
    by_cases e : v = x
    · subst e
      refine ⟨fun u hu => ?_, hle⟩
      have := h.step hg u (by rw [hx]; exact hu)
      rwa [hx] at this
    · obtain ⟨a, b⟩ := h.done v h1 h2 h3 (by simp [e, h4])
      rw [hx] at b
      exact ⟨a, by omega⟩
theorem Mid.last {N : Int} {l : List Pip} {wo s x : Int} {f : List Int} (hg : goodNet N l = true) (h : Mid N l wo s f [x] l.length) : IsDist N l wo s (lab f) := by
  have hx : hd [x] = x := rfl
  refine ⟨h.low, h.self, h.only, h.back, fun u v he h0 => ?_⟩
  obtain ⟨⟨u1, u2⟩, -, -⟩ := he.ends hg
  by_cases e : u = x
  · subst e
    have := h.step hg v (by rw [hx]; exact he)
    rwa [hx] at this
  · exact (h.done u u1 u2 h0 (by simp [e])).1 v he
theorem Mid.start {N : Int} {l : List Pip} {wo s : Int} {f : List Int} (hs : 1 ≤ s ∧ s ≤ N) (hl : f.length = N.toNat + 1) (hf : ∀ v, 0 ≤ v → v ≤ N → v ≠ s → lab f v = -1) (h0 : lab f s = 0) : Mid N l wo s f [s] 0 := by
  have hx : hd [s] = s := rfl
  refine ⟨hl, hf 0 (by omega) (by omega) (by omega), ?_, h0, ?_, ?_, by simp, ?_, ?_, ?_, ?_, fun j hj => absurd hj (by omega)⟩
  · intro v h1 h2
    by_cases e : v = s
    · subst e; omega
    · rw [hf v (by omega) h2 e]; omega
  · intro v h1 h2 h3
    by_cases e : v = s
    · exact e
    · rw [hf v (by omega) h2 e] at h3; omega
  · intro v h1 h2 h3
    by_cases e : v = s
    · subst e; omega
    · rw [hf v (by omega) h2 e] at h3; omega
  · intro x hx
    rw [List.mem_singleton] at hx
    subst hx
    exact ⟨hs, by omega⟩
  · intro i j hij hj
    simp only [List.length_singleton] at hj
    obtain rfl : j = 0 := by omega
    obtain rfl : i = 0 := by omega
    exact Int.le_refl _
  · intro v h1 h2
    rw [hx, h0]
    by_cases e : v = s
    · subst e; omega
    · rw [hf v (by omega) h2 e]; omega
  · intro v h1 h2 h3 h4
    by_cases e : v = s
    · subst e; simp at h4
    · rw [hf v (by omega) h2 e] at h3; omega

end Go.Proofs.Ytpmffboojkfpdaa

