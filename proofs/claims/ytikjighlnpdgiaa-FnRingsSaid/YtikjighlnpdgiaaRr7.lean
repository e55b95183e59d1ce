/-
  Texts of this claim, joined: CurN3, Nums.
-/
import Derived.Test.YtikjighlnpdgiaaRr1
import Derived.Test.YtikjighlnpdgiaaRr5
import Derived.Test.YtikjighlnpdgiaaRr6
/-
  The draw of a network.
-/
set_option linter.unusedVariables false
set_option linter.unusedSimpArgs false
namespace Go.Proofs.Ytikjighlnpdgiaa
open Go.RowKit

theorem NBox.other {w W : World} {g b p j K : Nat} {N : Int} {u : Value} {a : Option Addr} {m c : Nat} {L : List Pip} (h : NBox w W g b K N a m c L) (hp : b < p) (hr : ∀ k, Value.ownBlock (.slice a m c) = some k → k ≠ p) : NBox w (W.setCell ⟨p, j, none⟩ u) g b K N a m c L := by
  refine ⟨h.cur.set (by have := h.lo; have := h.gb; omega), grown_set h.gro (by have := h.lo; omega), ?_, OwnS.kept h.own (grown_setCell W p j u) ?_, h.lo, h.gb⟩
  · rw [← h.box]
    exact (grown_setCell W p j u).block b h.lt (fun e => by have := Option.some.inj e; omega)
  · cases e : Value.ownBlock (.slice a m c) with
    | none => exact .inl rfl
    | some k => exact .inr (fun e2 => hr k e (Option.some.inj e2))
theorem four_of {w : World} {b : Nat} {x y z u : Value} {t : TypeId} (h : w.heap[b]? = some (.cells #[x, y, z, u] t (0, 0))) : w.cell? ⟨b, 0, none⟩ = some x ∧ w.cell? ⟨b, 1, none⟩ = some y ∧ w.cell? ⟨b, 2, none⟩ = some z ∧ w.cell? ⟨b, 3, none⟩ = some u :=
  ⟨by rw [cell_of_row w _ _ _ _ (0, 0) h]; rfl, by rw [cell_of_row w _ _ _ _ (0, 0) h]; rfl, by rw [cell_of_row w _ _ _ _ (0, 0) h]; rfl, by rw [cell_of_row w _ _ _ _ (0, 0) h]; rfl⟩

set_option maxRecDepth 100000 in
set_option maxHeartbeats 8000000 in
theorem c_network (g K : Nat) (w : World) (h : Cur w g K) (hK : K ≤ 10000000000) :
    Calls Try.prog 88 #[.pointer (some ⟨g, 0, none⟩)] w fun e w' => (∃ (N : Int) (a : Option Addr) (m c : Nat), e = .returned (.agg #[.int .i64 N, .slice a m c]) ∧ (1 ≤ N ∧ N ≤ 7 ∧ m ≤ 10) ∧ ∃ L : List Pip, OwnQ w' w.heap.size (.slice a m c) L) ∧ Cur w' g (K + 300) ∧ w.grownBy w' (some g) := by
  obtain ⟨i0, hi, hz0, hz1', hz2⟩ := info_parts Try.infoPipe
  have HI := hid hi
  have HZ := hid hz0
  have HZ1 := hid hz1'
  have HZ2 := hid hz2
  clear hi hz0 hz1' hz2
  have H := hid h
  have hgz := h.lt
  clear h
  have B0 := hid (by go_grown : Below w.heap.size w (w.alloc (.cells #[.int .i64 0, .slice none 0 0] 31)))
  have T0 := hid (heap_alloc_new w (.cells #[.int .i64 0, .slice none 0 0] 31))
  have hz0 : w.heap.size < (w.alloc (.cells #[.int .i64 0, .slice none 0 0] 31)).heap.size := by simp
  go_enter Try.func88, Try.ntmps88
  go_upto_region 1 with fail
  generalize w.alloc (.cells #[.int .i64 0, .slice none 0 0] 31) = w0 at *
  go_wp2_with fail
  refine (c_pick g K 7 _ (H.out.below B0.out) (by omega) (by omega)).mono ?_
  rintro e w1 ⟨⟨v, rfl, v0, v1⟩, hc1, hg1⟩
  obtain ⟨M, hM⟩ : ∃ M : Nat, 1 + v = M := ⟨(1 + v).toNat, by omega⟩
  have hM1 : 1 ≤ M ∧ M ≤ 7 := by omega
  have hwM : IntKind.i64.wrap (1 + v) = (M : Int) := by rw [IntWalk.i64_in _ (by omega)]; exact hM
  have HC1 := hid hc1
  have HG1 := hid hg1
  have hz1 := hg1.size
  have N0 := hid (show NBox w0 (w1.alloc (.cells #[.int .i64 M, .slice none 0 0] 31)) g w1.heap.size (K + 2) M none 0 0 [] from
    ⟨HC1.out.below (by go_grown), grownBy_trans HG1.out (grown_of_below (by go_grown) _), heap_alloc_new _ _, OwnS.nil _ _, by omega, by omega⟩)
  clear hc1 hg1 hM v0 v1
  go_upto_region 2 with fail
  obtain ⟨b3, hb3⟩ : ∃ b3, w1.heap.size = b3 := ⟨_, rfl⟩
  rw [hb3] at N0 ⊢
  generalize w1.alloc (.cells #[.int .i64 M, .slice none 0 0] 31) = w2 at *
  go_wp2
  go_loopg [4, 5] M (fun gm id nd wr => ∃ (k : Nat) (x : Int) (a' : Option Addr) (m c' : Nat) (L : List Pip), k ≤ M ∧ gm = M - k ∧ id = .int .i64 x ∧ nd = .int .i64 ((k : Int) + 2) ∧ m ≤ k ∧ Hid (NBox w0 wr g b3 (K + 2 + 12 * k) M a' m c' L))
  case atStart => exact ⟨0, 0, none, 0, 0, [], Nat.zero_le _, rfl, rfl, rfl, Nat.le_refl _, N0⟩
  case round =>
    obtain ⟨k, x, a', m, c', L, hk, rfl, rfl, rfl, hm, hh⟩ := hrel
    obtain ⟨m0, m1⟩ := two_of hh.out.box
    have hlt3 := hh.out.lt
    have hlo := hh.out.lo
    have hw2 : IntKind.i64.wrap ((k : Int) + 2 + 1) = ((k + 1 : Nat) : Int) + 2 := by rw [IntWalk.i64_in _ (by omega)]; omega
    by_cases hlt : (k : Int) + 2 ≤ (M : Int)
    · go_wp2_with fail
      refine (c_one g _ 10 _ hh.out.cur (by omega) (by omega)).mono ?_
      rintro e w5 ⟨⟨b, rfl⟩, hc5, hg5⟩
      have S5 := hid (hh.out.step hc5 hg5)
      clear hc5 hg5 m0 m1 hlt3
      cases b
      · go_wp2_with fail
        refine (c_pick g _ 3 _ S5.out.cur (by omega) (by omega)).mono ?_
        rintro e w6 ⟨⟨v1, rfl, -, -⟩, hc6, hg6⟩
        have S6 := hid (S5.out.step hc6 hg6)
        clear hc6 hg6
        go_wp2_with fail
        refine (c_pick g _ _ _ S6.out.cur (by omega) (by omega)).mono ?_
        rintro e w7 ⟨⟨v2, rfl, -, -⟩, hc7, hg7⟩
        have S7 := hid (S6.out.step hc7 hg7)
        clear hc7 hg7
        go_wp2_with fail
        refine (c_pick g _ 9 _ S7.out.cur (by omega) (by omega)).mono ?_
        rintro e w8 ⟨⟨v3, rfl, -, -⟩, hc8, hg8⟩
        have S8 := hid (S7.out.step hc8 hg8)
        clear hc8 hg8
        go_wp2_with fail
        generalize wrap64 (wrap64 (x + 1) + v1) = q0
        generalize wrap64 (1 + v2) = q1
        generalize wrap64 (1 + v3) = q3
        have S9 := hid (S8.out.below (by go_grown : Below w8.heap.size w8 (w8.alloc (.cells #[.int .i64 q0, .int .i64 q1, .int .i64 ((k : Int) + 2), .int .i64 q3] 71))))
        have P9 := hid (heap_alloc_new w8 (.cells #[.int .i64 q0, .int .i64 q1, .int .i64 ((k : Int) + 2), .int .i64 q3] 71))
        have HRW := hid (show ∀ r, Value.ownBlock (.slice a' m c') = some r → r ≠ w8.heap.size from fun r hr => by have := (OwnS.lt S8.out.own r hr).2; omega)
        have hb8 := S8.out.lt
        have hz9 : w8.heap.size < (w8.alloc (.cells #[.int .i64 q0, .int .i64 q1, .int .i64 ((k : Int) + 2), .int .i64 q3] 71)).heap.size := by simp
        generalize w8.alloc (.cells #[.int .i64 q0, .int .i64 q1, .int .i64 ((k : Int) + 2), .int .i64 q3] 71) = w9 at *
        refine (c_one g _ 2 _ S9.out.cur (by omega) (by omega)).mono ?_
        rintro e w10 ⟨⟨b, rfl⟩, hc10, hg10⟩
        have S10 := hid (S9.out.step hc10 hg10)
        have P10 := hid ((hg10.block w8.heap.size hz9 (fun e => by have := Option.some.inj e; have := S9.out.gb; omega)).trans P9.out)
        have hz10 : w8.heap.size < w10.heap.size := by have := hg10.size; omega
        clear hc10 hg10 S5 S6 S7 S8 S9 P9
        obtain ⟨pb, hpb⟩ : ∃ pb, w8.heap.size = pb := ⟨_, rfl⟩
        rw [hpb] at HRW hb8 hz9 P10 hz10 ⊢
        clear hpb
        cases b
        · obtain ⟨y0, y1, y2, y3⟩ := four_of P10.out
          obtain ⟨m0, m1⟩ := two_of S10.out.box
          have hbs := S10.out.lt
          have HS1 := hid (SAt.single (e := 71) w10 (q0, q1, ((k : Int) + 2), q3) qf_len)
          go_wp2_with (at_builtin; refine wp_append_s _ rfl _ _ _ rfl 71 i0 (.agg #[.int .i64 0, .int .i64 0, .int .i64 0, .int .i64 0]) 32 Try.underlying29 HI.out HZ.out HZ1.out HZ2.out rfl (by decide) qf_len qf_one (b3 + 1) _ L rfl (OwnS.alloc S10.out.own _) _ 1 1 [(q0, q1, ((k : Int) + 2), q3)] rfl HS1.out (m + 1) (by have := OwnS.len S10.out.own; simp; omega) (by omega) (by omega) (by simp; omega) ?_)
          intro a5 c5 w12 hown hgrow hblk
          have hgr2 : (w10).grownBy w12 (Value.ownBlock (.slice a' m c')) := grownBy_trans (grown_of_below (by go_grown) _) hgrow
          have hbx := (hgr2.block b3 hbs (fun e => by have := (OwnS.lt S10.out.own _ e.symm).1; omega)).trans S10.out.box
          have hz12 := hgr2.size
          obtain ⟨u0, u1⟩ := two_of hbx
          have fu := fun j => frozen_of_row w12 b3 j _ _ hbx
          have hb12 : b3 < w12.heap.size := by omega
          have SN := hid (S10.out.put hgr2 hown)
          clear hown hgrow hblk hgr2 hbx y0 y1 y2 y3 m0 m1
          go_wp2
          go_roundg (M - (k + 1))
          case rel => exact ⟨k + 1, _, _, m + 1, _, _, by omega, rfl, rfl, by first | rfl | go_num, by omega, hid (SN.out.le (by omega))⟩
          case measure => omega
        · obtain ⟨y0, y1, y2, y3⟩ := four_of P10.out
          have fa := fun j => frozen_of_row w10 pb j _ _ P10.out
          have r1 := heap_setCell_same _ _ 3 _ _ (.int .i64 q3) (heap_setCell_same _ _ 2 _ _ (.int .i64 q1) (heap_setCell_same _ _ 1 _ _ (.int .i64 ((k : Int) + 2)) (heap_setCell_same _ _ 0 _ _ (.int .i64 q0) P10.out)))
          simp only [List.setIfInBounds_toArray, List.set_cons_zero, List.set_cons_succ] at r1
          have S11 := hid ((((S10.out.other (p := pb) (j := 0) (u := .int .i64 q0) hb8 HRW.out).other (p := pb) (j := 1) (u := .int .i64 ((k : Int) + 2)) hb8 HRW.out).other (p := pb) (j := 2) (u := .int .i64 q1) hb8 HRW.out).other (p := pb) (j := 3) (u := .int .i64 q3) hb8 HRW.out)
          have P11 := hid r1
          have hz11 : pb < ((((w10.setCell ⟨pb, 0, none⟩ (.int .i64 q0)).setCell ⟨pb, 1, none⟩ (.int .i64 ((k : Int) + 2))).setCell ⟨pb, 2, none⟩ (.int .i64 q1)).setCell ⟨pb, 3, none⟩ (.int .i64 q3)).heap.size := by simp; omega
          clear r1
          go_upto_region 11 with fail
          generalize (((w10.setCell ⟨pb, 0, none⟩ (.int .i64 q0)).setCell ⟨pb, 1, none⟩ (.int .i64 ((k : Int) + 2))).setCell ⟨pb, 2, none⟩ (.int .i64 q1)).setCell ⟨pb, 3, none⟩ (.int .i64 q3) = w11 at *
          clear y0 y1 y2 y3 fa S10 P10 hz10
          obtain ⟨y0, y1, y2, y3⟩ := four_of P11.out
          obtain ⟨m0, m1⟩ := two_of S11.out.box
          have hbs := S11.out.lt
          have HS1 := hid (SAt.single (e := 71) w11 (q0, ((k : Int) + 2), q1, q3) qf_len)
          go_wp2_with (at_builtin; refine wp_append_s _ rfl _ _ _ rfl 71 i0 (.agg #[.int .i64 0, .int .i64 0, .int .i64 0, .int .i64 0]) 32 Try.underlying29 HI.out HZ.out HZ1.out HZ2.out rfl (by decide) qf_len qf_one (b3 + 1) _ L rfl (OwnS.alloc S11.out.own _) _ 1 1 [(q0, ((k : Int) + 2), q1, q3)] rfl HS1.out (m + 1) (by have := OwnS.len S11.out.own; simp; omega) (by omega) (by omega) (by simp; omega) ?_)
          intro a5 c5 w12 hown hgrow hblk
          have hgr2 : (w11).grownBy w12 (Value.ownBlock (.slice a' m c')) := grownBy_trans (grown_of_below (by go_grown) _) hgrow
          have hbx := (hgr2.block b3 hbs (fun e => by have := (OwnS.lt S11.out.own _ e.symm).1; omega)).trans S11.out.box
          have hz12 := hgr2.size
          obtain ⟨u0, u1⟩ := two_of hbx
          have fu := fun j => frozen_of_row w12 b3 j _ _ hbx
          have hb12 : b3 < w12.heap.size := by omega
          have SN := hid (S11.out.put hgr2 hown)
          clear hown hgrow hblk hgr2 hbx y0 y1 y2 y3 m0 m1
          go_wp2
          go_roundg (M - (k + 1))
          case rel => exact ⟨k + 1, _, _, m + 1, _, _, by omega, rfl, rfl, by first | rfl | go_num, by omega, hid (SN.out.le (by omega))⟩
          case measure => omega
      · go_wp2
        go_roundg (M - (k + 1))
        case rel => exact ⟨k + 1, x, a', m, c', L, by omega, rfl, rfl, by first | rfl | go_num, by omega, hid (S5.out.le (by omega))⟩
        case measure => omega
    · have hm7 : m ≤ 7 := by omega
      go_wp2_with fail
      refine (c_pick g _ 4 _ hh.out.cur (by omega) (by omega)).mono ?_
      rintro e w5 ⟨⟨r0, rfl, hr0, hr1⟩, hc5, hg5⟩
      have S5 := hid (hh.out.step hc5 hg5)
      obtain ⟨R0, rfl⟩ : ∃ R0 : Nat, r0 = R0 := ⟨r0.toNat, by omega⟩
      have hr : R0 ≤ 3 := by omega
      clear hc5 hg5 m0 m1 hlt3 hlo hw2 hr0 hr1
      go_wp2
      go_loopg [4, 7] R0 (fun gm id rr wr => ∃ (q : Nat) (y : Int) (a' : Option Addr) (m c' : Nat) (L : List Pip), q ≤ 3 ∧ q = gm ∧ id = .int .i64 y ∧ rr = .int .i64 q ∧ m ≤ 10 ∧ Hid (NBox w0 wr g b3 (K + 150 - 12 * q) M a' m c' L))
      case atStart => exact ⟨R0, x, a', m, c', L, hr, rfl, rfl, rfl, by omega, hid (S5.out.le (by omega))⟩
      case round =>
        obtain ⟨q, y, a', m, c', L, hq, rfl, rfl, rfl, hm, hh⟩ := hrel
        clear S5
        obtain ⟨m0, m1⟩ := two_of hh.out.box
        have hlt3 := hh.out.lt
        have hlo := hh.out.lo
        by_cases h1 : 0 < q
        · have h1i : (0 : Int) < (q : Int) := by omega
          by_cases h2 : 1 < M
          · have h2i : (1 : Int) < (M : Int) := by omega
            by_cases h3 : m < 10
            · have h3i : (m : Int) < 10 := by omega
              have hM7 : ¬ (M : Int) = 0 := by omega
              have hM8 : ((M : Int) == 0) = false := by simp; omega
              have hM9 : ¬ M = 0 := by omega
              go_wp2_with fail
              refine (c_pick g _ 3 _ hh.out.cur (by omega) (by omega)).mono ?_
              rintro e w6 ⟨⟨v1, rfl, -, -⟩, hc6, hg6⟩
              have S6 := hid (hh.out.step hc6 hg6)
              clear hc6 hg6 m0 m1 hlt3
              obtain ⟨m0, m1⟩ := two_of S6.out.box
              have hlt3 := S6.out.lt
              go_wp2_with fail
              refine (c_pick g _ M _ S6.out.cur (by omega) (by omega)).mono ?_
              rintro e w7 ⟨⟨v2, rfl, hv20, hv21⟩, hc7, hg7⟩
              have S7 := hid (S6.out.step hc7 hg7)
              clear hc7 hg7 m0 m1 hlt3 S6 hh
              obtain ⟨m0, m1⟩ := two_of S7.out.box
              have hlt3 := S7.out.lt
              have hw7 : IntKind.i64.wrap (1 + v2) = 1 + v2 := IntWalk.i64_in _ (by omega)
              go_upto_region 17 with fail
              generalize wrap64 (wrap64 (y + 1) + v1) = q0
              obtain ⟨F, hF⟩ : ∃ F, 1 + v2 = F := ⟨_, rfl⟩
              rw [hF] at hw7 ⊢
              clear hF hw7
              have KX := hid (fun (wy : World) (hb : Below w7.heap.size w7 wy) => two_of ((S7.out.below hb).box))
              refine wp_region_noPanic ?_
              refine wp_region_to (fun w' => w'.cell? ⟨b3, 0, none⟩ = some (.int .i64 M) ∧ w'.cell? ⟨b3, 1, none⟩ = some (.slice a' m c')) 16 (by kernel_rfl) (by exact ⟨m0, m1⟩) (fun hHeld => ?_)
              refine AnyTo.take (i := 0) (v := ?_) rfl (by kernel_rfl) (by kernel_rfl) (by kernel_rfl) (by kernel_rfl) (fun _ _ _ h => h) (Or.inl ⟨by rfl, ?_⟩) (by assumption) ?_
              rotate_left
              · (intro w' hSw; (try dsimp only at hSw); go_simp; all_goals with_reducible rfl)
              try simp only [Act.put, List.setIfInBounds_toArray, List.set_cons_zero, List.set_cons_succ]
              refine AnyTo.take (i := 1) (v := ?_) rfl (by kernel_rfl) (by kernel_rfl) (by kernel_rfl) (by kernel_rfl) (fun _ _ _ h => h) (Or.inl ⟨by rfl, ?_⟩) (by assumption) ?_
              rotate_left
              · (intro w' hSw; (try dsimp only at hSw); go_simp; all_goals with_reducible rfl)
              try simp only [Act.put, List.setIfInBounds_toArray, List.set_cons_zero, List.set_cons_succ]
              refine AnyTo.take (i := 2) (v := ?_) rfl (by kernel_rfl) (by kernel_rfl) (by kernel_rfl) (by kernel_rfl) (fun _ _ _ h => h) (Or.inl ⟨by rfl, ?_⟩) (by assumption) ?_
              rotate_left
              · (intro w' hSw; (try dsimp only at hSw); go_simp; all_goals with_reducible rfl)
              try simp only [Act.put, List.setIfInBounds_toArray, List.set_cons_zero, List.set_cons_succ]
              refine AnyTo.take (i := 3) (v := ?_) rfl (by kernel_rfl) (by kernel_rfl) (by kernel_rfl) (by kernel_rfl) (fun _ _ _ h => h) (Or.inl ⟨by rfl, ?_⟩) (by assumption) ?_
              rotate_left
              · (intro w' hSw; (try dsimp only at hSw); go_simp; all_goals with_reducible rfl)
              try simp only [Act.put, List.setIfInBounds_toArray, List.set_cons_zero, List.set_cons_succ]
              refine AnyTo.take (i := 4) (v := ?_) rfl (by kernel_rfl) (by kernel_rfl) (by kernel_rfl) (by kernel_rfl) (fun _ _ _ h => h) (Or.inl ⟨by rfl, ?_⟩) (by assumption) ?_
              rotate_left
              · (intro w' hSw; (try dsimp only at hSw); go_simp; all_goals with_reducible rfl)
              try simp only [Act.put, List.setIfInBounds_toArray, List.set_cons_zero, List.set_cons_succ]
              refine AnyTo.take (i := 5) (v := ?_) rfl (by kernel_rfl) (by kernel_rfl) (by kernel_rfl) (by kernel_rfl) (fun _ _ _ h => h) (Or.inl ⟨by rfl, ?_⟩) (by assumption) ?_
              rotate_left
              · (intro w' hSw; (try dsimp only at hSw); go_simp; all_goals with_reducible rfl)
              try simp only [Act.put, List.setIfInBounds_toArray, List.set_cons_zero, List.set_cons_succ]
              refine AnyTo.take (i := 6) (v := ?_) rfl (by kernel_rfl) (by kernel_rfl) (by kernel_rfl) (by kernel_rfl) (fun _ _ _ h => h) (Or.inl ⟨by rfl, ?_⟩) (by assumption) ?_
              rotate_left
              · (intro w' hSw; (try dsimp only at hSw); go_simp; all_goals with_reducible rfl)
              try simp only [Act.put, List.setIfInBounds_toArray, List.set_cons_zero, List.set_cons_succ]
              refine AnyTo.take (i := 7) (v := ?_) rfl (by kernel_rfl) (by kernel_rfl) (by kernel_rfl) (by kernel_rfl) (fun _ _ _ h => h) (Or.inl ⟨by rfl, ?_⟩) (by assumption) ?_
              rotate_left
              · (intro w' hSw; (try dsimp only at hSw); go_simp; all_goals with_reducible rfl)
              try simp only [Act.put, List.setIfInBounds_toArray, List.set_cons_zero, List.set_cons_succ]
              refine AnyTo.take (i := 8) (v := ?_) rfl (by kernel_rfl) (by kernel_rfl) (by kernel_rfl) (by kernel_rfl) (fun _ _ _ h => h) (Or.inl ⟨by rfl, ?_⟩) (by assumption) ?_
              rotate_left
              · (intro w' hSw; (try dsimp only at hSw); go_simp; all_goals with_reducible rfl)
              try simp only [Act.put, List.setIfInBounds_toArray, List.set_cons_zero, List.set_cons_succ]
              refine AnyTo.take (i := 9) (v := ?_) rfl (by kernel_rfl) (by kernel_rfl) (by kernel_rfl) (by kernel_rfl) (fun _ _ _ h => h) (Or.inl ⟨by rfl, ?_⟩) (by assumption) ?_
              rotate_left
              · (intro w' hSw; (try dsimp only at hSw); go_simp; all_goals with_reducible rfl)
              try simp only [Act.put, List.setIfInBounds_toArray, List.set_cons_zero, List.set_cons_succ]
              refine AnyTo.one (i := 10) rfl (by kernel_rfl) (fun Kn hKn => ?_)
              go_simp
              go_at_call 89
              refine (c_pick g _ 9 _ (S7.out.below (by go_grown)).cur (by omega) (by omega)).mono ?_
              rintro e w8 ⟨⟨v3, rfl, -, -⟩, hc8, hg8⟩
              have S8 := hid ((S7.out.below (by go_grown)).step hc8 hg8)
              obtain ⟨p0, p1⟩ := two_of S8.out.box
              have hlt8 := S8.out.lt
              clear hc8 hg8 hHeld
              refine hKn.out _ _ ⟨p0, p1⟩ (fun hHeld => ?_)
              clear hKn Kn
              try simp only [Act.put, List.setIfInBounds_toArray, List.set_cons_zero, List.set_cons_succ]
              refine AnyTo.take (i := 11) (v := ?_) rfl (by kernel_rfl) (by kernel_rfl) (by kernel_rfl) (by kernel_rfl) (fun _ _ _ h => h) (Or.inl ⟨by rfl, ?_⟩) (by assumption) ?_
              rotate_left
              · (intro w' hSw; (try dsimp only at hSw); go_simp; all_goals with_reducible rfl)
              try simp only [Act.put, List.setIfInBounds_toArray, List.set_cons_zero, List.set_cons_succ]
              refine AnyTo.take (i := 12) (v := ?_) rfl (by kernel_rfl) (by kernel_rfl) (by kernel_rfl) (by kernel_rfl) (fun _ _ _ h => h) (Or.inl ⟨by rfl, ?_⟩) (by assumption) ?_
              rotate_left
              · (intro w' hSw; (try dsimp only at hSw); go_simp; all_goals with_reducible rfl)
              try simp only [Act.put, List.setIfInBounds_toArray, List.set_cons_zero, List.set_cons_succ]
              refine AnyTo.one (i := 13) rfl (by kernel_rfl) (fun Kn hKn => ?_)
              go_simp
              have BW := hid (by go_grown : Below w8.heap.size w8 (w8.alloc (.cells #[.int .i64 q0, .int .i64 F, .int .i64 (IntKind.i64.wrap (1 + F.tmod M)), .int .i64 (IntKind.i64.wrap (1 + v3))] 71)))
              have HS1 := hid (SAt.single (e := 71) w8 (q0, F, IntKind.i64.wrap (1 + F.tmod M), IntKind.i64.wrap (1 + v3)) qf_len)
              clear hHeld
              refine hKn.out _ _ (two_of ((S8.out.below BW.out).box)) (fun hHeld => ?_)
              clear hKn Kn
              try simp only [Act.put, List.setIfInBounds_toArray, List.set_cons_zero, List.set_cons_succ]
              refine AnyTo.one (i := 14) rfl (by kernel_rfl) (fun Kn hKn => ?_)
              refine step_append_q (by rfl) _ _ (by rfl) (b3 + 1) _ L (by rfl) (OwnS.alloc S8.out.own _) _ 1 _ [(q0, F, IntKind.i64.wrap (1 + F.tmod M), IntKind.i64.wrap (1 + v3))] (by rfl) HS1.out (m + 1) (by have := OwnS.len S8.out.own; simp; omega) (by omega) (by simp; omega) ?_
              intro a5 c5 w12 hown hgrow hblk
              have hgr2 : w8.grownBy w12 (Value.ownBlock (.slice a' m c')) := grownBy_trans (grown_of_below BW.out _) hgrow
              have hbx := (hgr2.block b3 hlt8 (fun e => by have := (OwnS.lt S8.out.own _ e.symm).1; omega)).trans S8.out.box
              have hz12 := hgr2.size
              obtain ⟨u0, u1⟩ := two_of hbx
              have fu := fun j => frozen_of_row w12 b3 j _ _ hbx
              have hb12 : b3 < w12.heap.size := by omega
              have SN := hid (S8.out.put hgr2 hown)
              clear hown hgrow hblk hgr2 hbx hHeld p0 p1
              refine hKn.out _ _ ⟨u0, u1⟩ (fun hHeld => ?_)
              clear hKn Kn
              try simp only [Act.put, List.setIfInBounds_toArray, List.set_cons_zero, List.set_cons_succ]
              refine AnyTo.take (i := 15) (v := ?_) rfl (by kernel_rfl) (by kernel_rfl) (by kernel_rfl) (by kernel_rfl) (fun _ _ _ h => h) (Or.inl ⟨by rfl, ?_⟩) (by assumption) ?_
              rotate_left
              · (intro w' hSw; (try dsimp only at hSw); go_simp; all_goals with_reducible rfl)
              try simp only [Act.put, List.setIfInBounds_toArray, List.set_cons_zero, List.set_cons_succ]
              refine AnyTo.last rfl (by kernel_rfl) (by kernel_rfl) (fun Kn hKn => ?_)
              go_simp
              refine hKn.out _ _ ?_
              clear hKn Kn
              try simp only [Act.put, List.setIfInBounds_toArray, List.set_cons_zero, List.set_cons_succ]
              refine NoPanic.normal ?_
              clear hHeld
              have hwq := IntWalk.i64_in ((q : Int) - 1) (by omega)
              clear u0 u1 fu
              go_wp2
              go_roundg (q - 1)
              case rel => exact ⟨q - 1, _, _, _, _, _, by omega, rfl, rfl, by first | rfl | (congr 1; omega), by omega, hid (SN.out.le (by omega))⟩
              case measure => omega
            · have h3i : ¬ (m : Int) < 10 := by omega
              have TZ := hid ((hh.out.gro.block w.heap.size hz0 (fun e => by have := Option.some.inj e; omega)).trans T0.out)
              obtain ⟨z0, z1⟩ := two_of TZ.out
              have fz := fun j => frozen_of_row wr w.heap.size j _ _ TZ.out
              have hne : ¬ w.heap.size = b3 := by omega
              have hne2 : ¬ b3 = w.heap.size := by omega
              have hzr : w.heap.size < wr.heap.size := by omega
              go_wp2
              refine bodyPost_ret (v := .agg #[.int .i64 M, .slice a' m c']) (by simp [results, Try.results88, go_sem, *]) rfl ⟨⟨M, a', m, c', rfl, ⟨by omega, by omega, hm⟩, L, ?_⟩, ?_, ?_⟩
              · exact ((OwnS.far (OwnS.far hh.out.own (by omega)) (by omega))).mono (by omega)
              · exact (((hh.out.cur.le (by omega)).set hgz).set hgz)
              · exact grown_set (grown_set (grownBy_trans (grown_of_below B0.out _) hh.out.gro) (Nat.le_refl _)) (Nat.le_refl _)
          · have h2i : ¬ (1 : Int) < (M : Int) := by omega
            have TZ := hid ((hh.out.gro.block w.heap.size hz0 (fun e => by have := Option.some.inj e; omega)).trans T0.out)
            obtain ⟨z0, z1⟩ := two_of TZ.out
            have fz := fun j => frozen_of_row wr w.heap.size j _ _ TZ.out
            have hne : ¬ w.heap.size = b3 := by omega
            have hne2 : ¬ b3 = w.heap.size := by omega
            have hzr : w.heap.size < wr.heap.size := by omega
            go_wp2
            refine bodyPost_ret (v := .agg #[.int .i64 M, .slice a' m c']) (by simp [results, Try.results88, go_sem, *]) rfl ⟨⟨M, a', m, c', rfl, ⟨by omega, by omega, hm⟩, L, ?_⟩, ?_, ?_⟩
            · exact ((OwnS.far (OwnS.far hh.out.own (by omega)) (by omega))).mono (by omega)
            · exact (((hh.out.cur.le (by omega)).set hgz).set hgz)
            · exact grown_set (grown_set (grownBy_trans (grown_of_below B0.out _) hh.out.gro) (Nat.le_refl _)) (Nat.le_refl _)
        · have h1i : ¬ (0 : Int) < (q : Int) := by omega
          have TZ := hid ((hh.out.gro.block w.heap.size hz0 (fun e => by have := Option.some.inj e; omega)).trans T0.out)
          obtain ⟨z0, z1⟩ := two_of TZ.out
          have fz := fun j => frozen_of_row wr w.heap.size j _ _ TZ.out
          have hne : ¬ w.heap.size = b3 := by omega
          have hne2 : ¬ b3 = w.heap.size := by omega
          have hzr : w.heap.size < wr.heap.size := by omega
          go_wp2
          refine bodyPost_ret (v := .agg #[.int .i64 M, .slice a' m c']) (by simp [results, Try.results88, go_sem, *]) rfl ⟨⟨M, a', m, c', rfl, ⟨by omega, by omega, hm⟩, L, ?_⟩, ?_, ?_⟩
          · exact ((OwnS.far (OwnS.far hh.out.own (by omega)) (by omega))).mono (by omega)
          · exact (((hh.out.cur.le (by omega)).set hgz).set hgz)
          · exact grown_set (grown_set (grownBy_trans (grown_of_below B0.out _) hh.out.gro) (Nat.le_refl _)) (Nat.le_refl _)

end Go.Proofs.Ytikjighlnpdgiaa

/-
  Numbers: absolute values, the greatest common divisor, fractions in lowest terms.
-/
set_option linter.unusedVariables false
set_option linter.unusedSimpArgs false
namespace Go.Proofs.Ytikjighlnpdgiaa
open Go.RowKit

/-- A number that products are taken of. -/
abbrev fine (x : Int) : Prop := -1152921504606846976 ≤ x ∧ x ≤ 1152921504606846976

theorem i_absOf (x : Int) (w : World) (h : -4611686018427387904 ≤ x ∧ x ≤ 4611686018427387904) : Calls Try.prog 62 #[.int .i64 x] w fun e w' => e = .returned (.int .i64 (max x (-x))) ∧ w = w' := by
  go_enter Try.func62, Try.ntmps62
  go_wp2
  all_goals go_ret
  all_goals exact ⟨ret_int (by omega), rfl⟩
theorem s_l1Most (a b : Int) (w : World) : Calls Try.prog 103 #[.int .i64 a, .int .i64 b] w fun e w' => e = .returned (.int .i64 (max a b)) ∧ w = w' := by
  by_cases h : a > b
  · go_enter Try.func103, Try.ntmps103
    go_wp2
    go_ret
    exact ⟨ret_int (by omega), rfl⟩
  · go_enter Try.func103, Try.ntmps103
    go_wp2
    go_ret
    exact ⟨ret_int (by omega), rfl⟩

/-- The greatest common divisor. -/
def gd (a b : Int) : Int := (Nat.gcd a.natAbs b.natAbs : Nat)
theorem max_abs (x : Int) : max x (-x) = (x.natAbs : Int) := by omega
theorem gd_pos {a b : Int} (h : 0 < b) : 0 < gd a b := by
  unfold gd
  have : 0 < Nat.gcd a.natAbs b.natAbs := Nat.gcd_pos_of_pos_right _ (by omega)
  omega
theorem gcd_step (x y : Nat) (h : y ≠ 0) : Nat.gcd y (x % y) = Nat.gcd x y := by
  rw [Nat.gcd_comm x y, Nat.gcd_rec y x, Nat.gcd_comm]



/-- The parts of a fraction in lowest terms. -/
def lowN (a b : Int) : Int := a.tdiv (gd a b)
def lowD (a b : Int) : Int := b / gd a b
theorem gd_dvd (a b : Int) : gd a b ∣ b := by
  unfold gd
  exact Int.ofNat_dvd_left.2 (Nat.gcd_dvd_right _ _)
theorem lowD_pos {a b : Int} (h : 0 < b) : 0 < lowD a b := Int.ediv_pos_of_pos_of_dvd h (by have := gd_pos (a := a) h; omega) (gd_dvd a b)
theorem lowD_le {a b : Int} (h : 0 < b) : lowD a b ≤ b := Int.ediv_le_self _ (by omega)
theorem gd_ge {a b : Int} (h : 0 < b) : 1 ≤ gd a b := by have := gd_pos (a := a) h; omega
theorem lowN_abs {a b : Int} (h : 0 < b) : (lowN a b).natAbs ≤ a.natAbs := by
  unfold lowN
  rw [Int.natAbs_tdiv]
  exact Nat.div_le_self _ _
theorem lowN_fine {a b B : Int} (h : 0 < b) (hB : -B ≤ a ∧ a ≤ B) : -B ≤ lowN a b ∧ lowN a b ≤ B := by
  have := lowN_abs (a := a) h
  omega
theorem gd_dvdN (a b : Int) : gd a b ∣ a := by
  unfold gd
  exact Int.ofNat_dvd_left.2 (Nat.gcd_dvd_left _ _)
/-- The fraction is the same. -/
theorem low_eq {a b : Int} (h : 0 < b) : lowN a b * b = a * lowD a b := by
  obtain ⟨x, hx⟩ := gd_dvdN a b
  obtain ⟨y, hy⟩ := gd_dvd a b
  have hg := gd_pos (a := a) h
  have e1 : lowN a b = x := by
    unfold lowN
    generalize hG : gd a b = G at *
    rw [hx]; exact Int.mul_tdiv_cancel_left _ (by omega)
  have e2 : lowD a b = y := by
    unfold lowD
    generalize hG : gd a b = G at *
    rw [hy]; exact Int.mul_ediv_cancel_left _ (by omega)
  rw [e1, e2]
  generalize hG : gd a b = G at *
  rw [hy, hx]
  grind



theorem mul_in {x y A B : Int} (hx : -A ≤ x ∧ x ≤ A) (hy : -B ≤ y ∧ y ≤ B) : -(A * B) ≤ x * y ∧ x * y ≤ A * B := by
  have h1 : x.natAbs ≤ A.toNat := by omega
  have h2 : y.natAbs ≤ B.toNat := by omega
  have h3 : (x * y).natAbs ≤ A.toNat * B.toNat := by rw [Int.natAbs_mul]; exact Nat.mul_le_mul h1 h2
  have h4 : ((A.toNat * B.toNat : Nat) : Int) = A * B := by
    rw [Int.natCast_mul, Int.toNat_of_nonneg (by omega), Int.toNat_of_nonneg (by omega)]
  omega

end Go.Proofs.Ytikjighlnpdgiaa

