/-
  Texts of this claim, joined: CurR.
-/
import Derived.Test.YtikjighlnpdgiaaRr8
/-
  The draws of networks and of rings, with what the drawn network is.
-/
set_option linter.unusedVariables false
set_option linter.unusedSimpArgs false
namespace Go.Proofs.Ytikjighlnpdgiaa
open Go.RowKit

/-- Fine pipes with rising ids, none above x. -/
def UpL (M x : Int) (L : List Pip) : Prop := 0 ≤ x ∧ (∀ p ∈ L, okPipe M p = true ∧ p.1 ≤ x) ∧ L.Pairwise (fun p q => p.1 < q.1)
theorem UpL.nil (M : Int) : UpL M 0 [] := ⟨Int.le_refl _, by simp, List.Pairwise.nil⟩
theorem UpL.app {M x : Int} {L : List Pip} {p : Pip} (h : UpL M x L) (hx : x < p.1) (hp : okPipe M p = true) : UpL M p.1 (L ++ [p]) := by
  refine ⟨by have := h.1; omega, ?_, ?_⟩
  · intro r hr
    rcases List.mem_append.1 hr with h1 | h1
    · have := h.2.1 r h1
      exact ⟨this.1, by omega⟩
    · obtain rfl : r = p := by simpa using h1
      exact ⟨hp, Int.le_refl _⟩
  · rw [List.pairwise_append]
    refine ⟨h.2.2, List.pairwise_singleton _ _, fun a ha b hb => ?_⟩
    obtain rfl : b = p := by simpa using hb
    have := (h.2.1 a ha).2
    omega
theorem UpL.good {M x : Int} {L : List Pip} (h : UpL M x L) (hM : 1 ≤ M ∧ M ≤ 8) (hl : L.length ≤ 10) : goodNet M L = true :=
  goodNet_iff.2 ⟨hM, hl, fun p hp => (h.2.1 p hp).1, h.2.2⟩
theorem round_ok {M : Nat} {q0 F v : Int} (hq : 1 ≤ q0 ∧ q0 ≤ 99) (hM : 1 < M ∧ M ≤ 8) (hF : 1 ≤ F ∧ F ≤ (M : Int)) (hv : 0 ≤ v ∧ v ≤ 8) : okPipe M (q0, F, IntKind.i64.wrap (1 + F.tmod M), IntKind.i64.wrap (1 + v)) = true := by
  have h1 : F.tmod M = F % M := Int.tmod_eq_emod_of_nonneg (by omega)
  have h2 := Int.emod_nonneg F (show (M : Int) ≠ 0 by omega)
  have h3 := Int.emod_lt_of_pos F (show (0 : Int) < M by omega)
  rw [okPipe_iff, h1, IntWalk.i64_in _ (by omega), IntWalk.i64_in _ (by omega)]
  refine ⟨hq, hF, ⟨by dsimp only; omega, by dsimp only; omega⟩, ?_, ⟨by dsimp only; omega, by dsimp only; omega⟩⟩
  dsimp only
  by_cases e : F = M
  · subst e
    rw [Int.emod_self]
    omega
  · rw [Int.emod_eq_of_lt (by omega) (by omega)]
    omega
theorem fine_ok {M : Int} {q0 q1 q2 q3 : Int} (hq : 1 ≤ q0 ∧ q0 ≤ 99) (h1 : 1 ≤ q1 ∧ q1 ≤ M) (h2 : 1 ≤ q2 ∧ q2 ≤ M) (h : q1 ≠ q2) (h3 : 1 ≤ q3 ∧ q3 ≤ 9) : okPipe M (q0, q1, q2, q3) = true :=
  okPipe_iff.2 ⟨hq, h1, h2, h, h3⟩

set_option maxRecDepth 100000 in
set_option maxHeartbeats 8000000 in
theorem c_networkG (g K : Nat) (w : World) (h : Cur w g K) (hK : K ≤ 10000000000) :
    Calls Try.prog 88 #[.pointer (some ⟨g, 0, none⟩)] w fun e w' => (∃ (N : Int) (a : Option Addr) (m c : Nat), e = .returned (.agg #[.int .i64 N, .slice a m c]) ∧ (1 ≤ N ∧ N ≤ 7 ∧ m ≤ 10) ∧ ∃ L : List Pip, OwnQ w' w.heap.size (.slice a m c) L ∧ goodNet N L = true) ∧ Cur w' g (K + 300) ∧ w.grownBy w' (some g) := by
  obtain ⟨i0, hi, hz0, hz1', hz2⟩ := info_parts Try.infoPipe
  have HI := hid hi
  have HZ := hid hz0
  have HZ1 := hid hz1'
  have HZ2 := hid hz2
  clear hi hz0 hz1' hz2
  have H := hid h
  have hgz := h.lt
  clear h
  have B0 := hid (by go_grown : Below w.heap.size w (w.alloc (.cells #[.int .i64 0, .slice none 0 0] 31)))
  have T0 := hid (heap_alloc_new w (.cells #[.int .i64 0, .slice none 0 0] 31))
  have hz0 : w.heap.size < (w.alloc (.cells #[.int .i64 0, .slice none 0 0] 31)).heap.size := by simp
  go_enter Try.func88, Try.ntmps88
  go_upto_region 1 with fail
  generalize w.alloc (.cells #[.int .i64 0, .slice none 0 0] 31) = w0 at *
  go_wp2_with fail
  refine (c_pick g K 7 _ (H.out.below B0.out) (by omega) (by omega)).mono ?_
  rintro e w1 ⟨⟨v, rfl, v0, v1⟩, hc1, hg1⟩
  obtain ⟨M, hM⟩ : ∃ M : Nat, 1 + v = M := ⟨(1 + v).toNat, by omega⟩
  have hM1 : 1 ≤ M ∧ M ≤ 7 := by omega
  have hwM : IntKind.i64.wrap (1 + v) = (M : Int) := by rw [IntWalk.i64_in _ (by omega)]; exact hM
  have HC1 := hid hc1
  have HG1 := hid hg1
  have hz1 := hg1.size
  have N0 := hid (show NBox w0 (w1.alloc (.cells #[.int .i64 M, .slice none 0 0] 31)) g w1.heap.size (K + 2) M none 0 0 [] from
    ⟨HC1.out.below (by go_grown), grownBy_trans HG1.out (grown_of_below (by go_grown) _), heap_alloc_new _ _, OwnS.nil _ _, by omega, by omega⟩)
  clear hc1 hg1 hM v0 v1
  go_upto_region 2 with fail
  obtain ⟨b3, hb3⟩ : ∃ b3, w1.heap.size = b3 := ⟨_, rfl⟩
  rw [hb3] at N0 ⊢
  generalize w1.alloc (.cells #[.int .i64 M, .slice none 0 0] 31) = w2 at *
  go_wp2
  go_loopg [4, 5] M (fun gm id nd wr => ∃ (k : Nat) (x : Int) (a' : Option Addr) (m c' : Nat) (L : List Pip), k ≤ M ∧ gm = M - k ∧ id = .int .i64 x ∧ nd = .int .i64 ((k : Int) + 2) ∧ m ≤ k ∧ Hid (NBox w0 wr g b3 (K + 2 + 12 * k) M a' m c' L) ∧ x ≤ 3 * (k : Int) ∧ Hid (UpL M x L))
  case atStart => exact ⟨0, 0, none, 0, 0, [], Nat.zero_le _, rfl, rfl, rfl, Nat.le_refl _, N0, by omega, hid (UpL.nil M)⟩
  case round =>
    obtain ⟨k, x, a', m, c', L, hk, rfl, rfl, rfl, hm, hh, hx3, HU⟩ := hrel
    have hx0 := HU.out.1
    obtain ⟨m0, m1⟩ := two_of hh.out.box
    have hlt3 := hh.out.lt
    have hlo := hh.out.lo
    have hw2 : IntKind.i64.wrap ((k : Int) + 2 + 1) = ((k + 1 : Nat) : Int) + 2 := by rw [IntWalk.i64_in _ (by omega)]; omega
    by_cases hlt : (k : Int) + 2 ≤ (M : Int)
    · go_wp2_with fail
      refine (c_one g _ 10 _ hh.out.cur (by omega) (by omega)).mono ?_
      rintro e w5 ⟨⟨b, rfl⟩, hc5, hg5⟩
      have S5 := hid (hh.out.step hc5 hg5)
      clear hc5 hg5 m0 m1 hlt3
      cases b
      · go_wp2_with fail
        refine (c_pick g _ 3 _ S5.out.cur (by omega) (by omega)).mono ?_
        rintro e w6 ⟨⟨v1, rfl, d10, d11⟩, hc6, hg6⟩
        have S6 := hid (S5.out.step hc6 hg6)
        clear hc6 hg6
        go_wp2_with fail
        refine (c_pick g _ _ _ S6.out.cur (by omega) (by omega)).mono ?_
        rintro e w7 ⟨⟨v2, rfl, d20, d21⟩, hc7, hg7⟩
        have d22 : v2 ≤ (k : Int) := by omega
        have S7 := hid (S6.out.step hc7 hg7)
        clear hc7 hg7
        go_wp2_with fail
        refine (c_pick g _ 9 _ S7.out.cur (by omega) (by omega)).mono ?_
        rintro e w8 ⟨⟨v3, rfl, d30, d31⟩, hc8, hg8⟩
        have S8 := hid (S7.out.step hc8 hg8)
        clear hc8 hg8
        go_wp2_with fail
        obtain ⟨q0, e0⟩ : ∃ q0, x + 1 + v1 = q0 := ⟨_, rfl⟩
        obtain ⟨q1, e1⟩ : ∃ q1, 1 + v2 = q1 := ⟨_, rfl⟩
        obtain ⟨q3, e3⟩ : ∃ q3, 1 + v3 = q3 := ⟨_, rfl⟩
        rw [e0, e1, e3]
        have HQ := hid (show (x < q0 ∧ q0 ≤ x + 3) ∧ (1 ≤ q1 ∧ q1 ≤ (k : Int) + 1) ∧ (1 ≤ q3 ∧ q3 ≤ 9) from ⟨⟨by omega, by omega⟩, ⟨by omega, by omega⟩, ⟨by omega, by omega⟩⟩)
        clear e0 e1 e3 d10 d11 d20 d21 d22 d30 d31
        have S9 := hid (S8.out.below (by go_grown : Below w8.heap.size w8 (w8.alloc (.cells #[.int .i64 q0, .int .i64 q1, .int .i64 ((k : Int) + 2), .int .i64 q3] 71))))
        have P9 := hid (heap_alloc_new w8 (.cells #[.int .i64 q0, .int .i64 q1, .int .i64 ((k : Int) + 2), .int .i64 q3] 71))
        have HRW := hid (show ∀ r, Value.ownBlock (.slice a' m c') = some r → r ≠ w8.heap.size from fun r hr => by have := (OwnS.lt S8.out.own r hr).2; omega)
        have hb8 := S8.out.lt
        have hz9 : w8.heap.size < (w8.alloc (.cells #[.int .i64 q0, .int .i64 q1, .int .i64 ((k : Int) + 2), .int .i64 q3] 71)).heap.size := by simp
        generalize w8.alloc (.cells #[.int .i64 q0, .int .i64 q1, .int .i64 ((k : Int) + 2), .int .i64 q3] 71) = w9 at *
        refine (c_one g _ 2 _ S9.out.cur (by omega) (by omega)).mono ?_
        rintro e w10 ⟨⟨b, rfl⟩, hc10, hg10⟩
        have S10 := hid (S9.out.step hc10 hg10)
        have P10 := hid ((hg10.block w8.heap.size hz9 (fun e => by have := Option.some.inj e; have := S9.out.gb; omega)).trans P9.out)
        have hz10 : w8.heap.size < w10.heap.size := by have := hg10.size; omega
        clear hc10 hg10 S5 S6 S7 S8 S9 P9
        obtain ⟨pb, hpb⟩ : ∃ pb, w8.heap.size = pb := ⟨_, rfl⟩
        rw [hpb] at HRW hb8 hz9 P10 hz10 ⊢
        clear hpb
        cases b
        · obtain ⟨y0, y1, y2, y3⟩ := four_of P10.out
          obtain ⟨m0, m1⟩ := two_of S10.out.box
          have hbs := S10.out.lt
          have HS1 := hid (SAt.single (e := 71) w10 (q0, q1, ((k : Int) + 2), q3) qf_len)
          go_wp2_with (at_builtin; refine wp_append_s _ rfl _ _ _ rfl 71 i0 (.agg #[.int .i64 0, .int .i64 0, .int .i64 0, .int .i64 0]) 32 Try.underlying29 HI.out HZ.out HZ1.out HZ2.out rfl (by decide) qf_len qf_one (b3 + 1) _ L rfl (OwnS.alloc S10.out.own _) _ 1 1 [(q0, q1, ((k : Int) + 2), q3)] rfl HS1.out (m + 1) (by have := OwnS.len S10.out.own; simp; omega) (by omega) (by omega) (by simp; omega) ?_)
          intro a5 c5 w12 hown hgrow hblk
          have hgr2 : (w10).grownBy w12 (Value.ownBlock (.slice a' m c')) := grownBy_trans (grown_of_below (by go_grown) _) hgrow
          have hbx := (hgr2.block b3 hbs (fun e => by have := (OwnS.lt S10.out.own _ e.symm).1; omega)).trans S10.out.box
          have hz12 := hgr2.size
          obtain ⟨u0, u1⟩ := two_of hbx
          have fu := fun j => frozen_of_row w12 b3 j _ _ hbx
          have hb12 : b3 < w12.heap.size := by omega
          have SN := hid (S10.out.put hgr2 hown)
          clear hown hgrow hblk hgr2 hbx y0 y1 y2 y3 m0 m1
          go_wp2
          go_roundg (M - (k + 1))
          case rel => exact ⟨k + 1, _, _, m + 1, _, _, by omega, rfl, rfl, by first | rfl | go_num, by omega, hid (SN.out.le (by omega)), by have := HQ.out; omega, hid (HU.out.app HQ.out.1.1 (fine_ok (by have := HU.out.1; have := HQ.out; omega) (by have := HQ.out; omega) (by have := HQ.out; omega) (by have := HQ.out; omega) HQ.out.2.2))⟩
          case measure => omega
        · obtain ⟨y0, y1, y2, y3⟩ := four_of P10.out
          have fa := fun j => frozen_of_row w10 pb j _ _ P10.out
          have r1 := heap_setCell_same _ _ 3 _ _ (.int .i64 q3) (heap_setCell_same _ _ 2 _ _ (.int .i64 q1) (heap_setCell_same _ _ 1 _ _ (.int .i64 ((k : Int) + 2)) (heap_setCell_same _ _ 0 _ _ (.int .i64 q0) P10.out)))
          simp only [List.setIfInBounds_toArray, List.set_cons_zero, List.set_cons_succ] at r1
          have S11 := hid ((((S10.out.other (p := pb) (j := 0) (u := .int .i64 q0) hb8 HRW.out).other (p := pb) (j := 1) (u := .int .i64 ((k : Int) + 2)) hb8 HRW.out).other (p := pb) (j := 2) (u := .int .i64 q1) hb8 HRW.out).other (p := pb) (j := 3) (u := .int .i64 q3) hb8 HRW.out)
          have P11 := hid r1
          have hz11 : pb < ((((w10.setCell ⟨pb, 0, none⟩ (.int .i64 q0)).setCell ⟨pb, 1, none⟩ (.int .i64 ((k : Int) + 2))).setCell ⟨pb, 2, none⟩ (.int .i64 q1)).setCell ⟨pb, 3, none⟩ (.int .i64 q3)).heap.size := by simp; omega
          clear r1
          go_upto_region 11 with fail
          generalize (((w10.setCell ⟨pb, 0, none⟩ (.int .i64 q0)).setCell ⟨pb, 1, none⟩ (.int .i64 ((k : Int) + 2))).setCell ⟨pb, 2, none⟩ (.int .i64 q1)).setCell ⟨pb, 3, none⟩ (.int .i64 q3) = w11 at *
          clear y0 y1 y2 y3 fa S10 P10 hz10
          obtain ⟨y0, y1, y2, y3⟩ := four_of P11.out
          obtain ⟨m0, m1⟩ := two_of S11.out.box
          have hbs := S11.out.lt
          have HS1 := hid (SAt.single (e := 71) w11 (q0, ((k : Int) + 2), q1, q3) qf_len)
          go_wp2_with (at_builtin; refine wp_append_s _ rfl _ _ _ rfl 71 i0 (.agg #[.int .i64 0, .int .i64 0, .int .i64 0, .int .i64 0]) 32 Try.underlying29 HI.out HZ.out HZ1.out HZ2.out rfl (by decide) qf_len qf_one (b3 + 1) _ L rfl (OwnS.alloc S11.out.own _) _ 1 1 [(q0, ((k : Int) + 2), q1, q3)] rfl HS1.out (m + 1) (by have := OwnS.len S11.out.own; simp; omega) (by omega) (by omega) (by simp; omega) ?_)
          intro a5 c5 w12 hown hgrow hblk
          have hgr2 : (w11).grownBy w12 (Value.ownBlock (.slice a' m c')) := grownBy_trans (grown_of_below (by go_grown) _) hgrow
          have hbx := (hgr2.block b3 hbs (fun e => by have := (OwnS.lt S11.out.own _ e.symm).1; omega)).trans S11.out.box
          have hz12 := hgr2.size
          obtain ⟨u0, u1⟩ := two_of hbx
          have fu := fun j => frozen_of_row w12 b3 j _ _ hbx
          have hb12 : b3 < w12.heap.size := by omega
          have SN := hid (S11.out.put hgr2 hown)
          clear hown hgrow hblk hgr2 hbx y0 y1 y2 y3 m0 m1
          go_wp2
          go_roundg (M - (k + 1))
          case rel => exact ⟨k + 1, _, _, m + 1, _, _, by omega, rfl, rfl, by first | rfl | go_num, by omega, hid (SN.out.le (by omega)), by have := HQ.out; omega, hid (HU.out.app HQ.out.1.1 (fine_ok (by have := HU.out.1; have := HQ.out; omega) (by have := HQ.out; omega) (by have := HQ.out; omega) (by have := HQ.out; omega) HQ.out.2.2))⟩
          case measure => omega
      · go_wp2
        go_roundg (M - (k + 1))
        case rel => exact ⟨k + 1, x, a', m, c', L, by omega, rfl, rfl, by first | rfl | go_num, by omega, hid (S5.out.le (by omega)), by omega, HU⟩
        case measure => omega
    · have hm7 : m ≤ 7 := by omega
      go_wp2_with fail
      refine (c_pick g _ 4 _ hh.out.cur (by omega) (by omega)).mono ?_
      rintro e w5 ⟨⟨r0, rfl, hr0, hr1⟩, hc5, hg5⟩
      have S5 := hid (hh.out.step hc5 hg5)
      obtain ⟨R0, rfl⟩ : ∃ R0 : Nat, r0 = R0 := ⟨r0.toNat, by omega⟩
      have hr : R0 ≤ 3 := by omega
      clear hc5 hg5 m0 m1 hlt3 hlo hw2 hr0 hr1
      go_wp2
      go_loopg [4, 7] R0 (fun gm id rr wr => ∃ (q : Nat) (y : Int) (a' : Option Addr) (m c' : Nat) (L : List Pip), q ≤ 3 ∧ q = gm ∧ id = .int .i64 y ∧ rr = .int .i64 q ∧ m ≤ 10 ∧ Hid (NBox w0 wr g b3 (K + 150 - 12 * q) M a' m c' L) ∧ y ≤ 40 - 3 * (q : Int) ∧ Hid (UpL M y L))
      case atStart => exact ⟨R0, x, a', m, c', L, hr, rfl, rfl, rfl, by omega, hid (S5.out.le (by omega)), by omega, HU⟩
      case round =>
        clear HU
        obtain ⟨q, y, a', m, c', L, hq, rfl, rfl, rfl, hm, hh, hy3, HU⟩ := hrel
        have hy0 := HU.out.1
        clear S5
        obtain ⟨m0, m1⟩ := two_of hh.out.box
        have hlt3 := hh.out.lt
        have hlo := hh.out.lo
        by_cases h1 : 0 < q
        · have h1i : (0 : Int) < (q : Int) := by omega
          by_cases h2 : 1 < M
          · have h2i : (1 : Int) < (M : Int) := by omega
            by_cases h3 : m < 10
            · have h3i : (m : Int) < 10 := by omega
              have hM7 : ¬ (M : Int) = 0 := by omega
              have hM8 : ((M : Int) == 0) = false := by simp; omega
              have hM9 : ¬ M = 0 := by omega
              go_wp2_with fail
              refine (c_pick g _ 3 _ hh.out.cur (by omega) (by omega)).mono ?_
              rintro e w6 ⟨⟨v1, rfl, d10, d11⟩, hc6, hg6⟩
              have S6 := hid (hh.out.step hc6 hg6)
              clear hc6 hg6 m0 m1 hlt3
              obtain ⟨m0, m1⟩ := two_of S6.out.box
              have hlt3 := S6.out.lt
              go_wp2_with fail
              refine (c_pick g _ M _ S6.out.cur (by omega) (by omega)).mono ?_
              rintro e w7 ⟨⟨v2, rfl, hv20, hv21⟩, hc7, hg7⟩
              have S7 := hid (S6.out.step hc7 hg7)
              clear hc7 hg7 m0 m1 hlt3 S6 hh
              obtain ⟨m0, m1⟩ := two_of S7.out.box
              have hlt3 := S7.out.lt
              have hw7 : IntKind.i64.wrap (1 + v2) = 1 + v2 := IntWalk.i64_in _ (by omega)
              go_upto_region 17 with fail
              obtain ⟨q0, e0⟩ : ∃ q0, y + 1 + v1 = q0 := ⟨_, rfl⟩
              rw [e0]
              have HQ := hid (show y < q0 ∧ q0 ≤ y + 3 from ⟨by omega, by omega⟩)
              clear e0 d10 d11
              obtain ⟨F, hF⟩ : ∃ F, 1 + v2 = F := ⟨_, rfl⟩
              have HF := hid (show 1 ≤ F ∧ F ≤ (M : Int) from ⟨by omega, by omega⟩)
              rw [hF] at hw7 ⊢
              clear hF hw7
              have KX := hid (fun (wy : World) (hb : Below w7.heap.size w7 wy) => two_of ((S7.out.below hb).box))
              refine wp_region_noPanic ?_
              refine wp_region_to (fun w' => w'.cell? ⟨b3, 0, none⟩ = some (.int .i64 M) ∧ w'.cell? ⟨b3, 1, none⟩ = some (.slice a' m c')) 16 (by kernel_rfl) (by exact ⟨m0, m1⟩) (fun hHeld => ?_)
              refine AnyTo.take (i := 0) (v := ?_) rfl (by kernel_rfl) (by kernel_rfl) (by kernel_rfl) (by kernel_rfl) (fun _ _ _ h => h) (Or.inl ⟨by rfl, ?_⟩) (by assumption) ?_
              rotate_left
              · (intro w' hSw; (try dsimp only at hSw); go_simp; all_goals with_reducible rfl)
              try simp only [Act.put, List.setIfInBounds_toArray, List.set_cons_zero, List.set_cons_succ]
              refine AnyTo.take (i := 1) (v := ?_) rfl (by kernel_rfl) (by kernel_rfl) (by kernel_rfl) (by kernel_rfl) (fun _ _ _ h => h) (Or.inl ⟨by rfl, ?_⟩) (by assumption) ?_
              rotate_left
              · (intro w' hSw; (try dsimp only at hSw); go_simp; all_goals with_reducible rfl)
              try simp only [Act.put, List.setIfInBounds_toArray, List.set_cons_zero, List.set_cons_succ]
              refine AnyTo.take (i := 2) (v := ?_) rfl (by kernel_rfl) (by kernel_rfl) (by kernel_rfl) (by kernel_rfl) (fun _ _ _ h => h) (Or.inl ⟨by rfl, ?_⟩) (by assumption) ?_
              rotate_left
              · (intro w' hSw; (try dsimp only at hSw); go_simp; all_goals with_reducible rfl)
              try simp only [Act.put, List.setIfInBounds_toArray, List.set_cons_zero, List.set_cons_succ]
              refine AnyTo.take (i := 3) (v := ?_) rfl (by kernel_rfl) (by kernel_rfl) (by kernel_rfl) (by kernel_rfl) (fun _ _ _ h => h) (Or.inl ⟨by rfl, ?_⟩) (by assumption) ?_
              rotate_left
              · (intro w' hSw; (try dsimp only at hSw); go_simp; all_goals with_reducible rfl)
              try simp only [Act.put, List.setIfInBounds_toArray, List.set_cons_zero, List.set_cons_succ]
              refine AnyTo.take (i := 4) (v := ?_) rfl (by kernel_rfl) (by kernel_rfl) (by kernel_rfl) (by kernel_rfl) (fun _ _ _ h => h) (Or.inl ⟨by rfl, ?_⟩) (by assumption) ?_
              rotate_left
              · (intro w' hSw; (try dsimp only at hSw); go_simp; all_goals with_reducible rfl)
              try simp only [Act.put, List.setIfInBounds_toArray, List.set_cons_zero, List.set_cons_succ]
              refine AnyTo.take (i := 5) (v := ?_) rfl (by kernel_rfl) (by kernel_rfl) (by kernel_rfl) (by kernel_rfl) (fun _ _ _ h => h) (Or.inl ⟨by rfl, ?_⟩) (by assumption) ?_
              rotate_left
              · (intro w' hSw; (try dsimp only at hSw); go_simp; all_goals with_reducible rfl)
              try simp only [Act.put, List.setIfInBounds_toArray, List.set_cons_zero, List.set_cons_succ]
              refine AnyTo.take (i := 6) (v := ?_) rfl (by kernel_rfl) (by kernel_rfl) (by kernel_rfl) (by kernel_rfl) (fun _ _ _ h => h) (Or.inl ⟨by rfl, ?_⟩) (by assumption) ?_
              rotate_left
              · (intro w' hSw; (try dsimp only at hSw); go_simp; all_goals with_reducible rfl)
              try simp only [Act.put, List.setIfInBounds_toArray, List.set_cons_zero, List.set_cons_succ]
              refine AnyTo.take (i := 7) (v := ?_) rfl (by kernel_rfl) (by kernel_rfl) (by kernel_rfl) (by kernel_rfl) (fun _ _ _ h => h) (Or.inl ⟨by rfl, ?_⟩) (by assumption) ?_
              rotate_left
              · (intro w' hSw; (try dsimp only at hSw); go_simp; all_goals with_reducible rfl)
              try simp only [Act.put, List.setIfInBounds_toArray, List.set_cons_zero, List.set_cons_succ]
              refine AnyTo.take (i := 8) (v := ?_) rfl (by kernel_rfl) (by kernel_rfl) (by kernel_rfl) (by kernel_rfl) (fun _ _ _ h => h) (Or.inl ⟨by rfl, ?_⟩) (by assumption) ?_
              rotate_left
              · (intro w' hSw; (try dsimp only at hSw); go_simp; all_goals with_reducible rfl)
              try simp only [Act.put, List.setIfInBounds_toArray, List.set_cons_zero, List.set_cons_succ]
              refine AnyTo.take (i := 9) (v := ?_) rfl (by kernel_rfl) (by kernel_rfl) (by kernel_rfl) (by kernel_rfl) (fun _ _ _ h => h) (Or.inl ⟨by rfl, ?_⟩) (by assumption) ?_
              rotate_left
              · (intro w' hSw; (try dsimp only at hSw); go_simp; all_goals with_reducible rfl)
              try simp only [Act.put, List.setIfInBounds_toArray, List.set_cons_zero, List.set_cons_succ]
              refine AnyTo.one (i := 10) rfl (by kernel_rfl) (fun Kn hKn => ?_)
              go_simp
              go_at_call 89
              refine (c_pick g _ 9 _ (S7.out.below (by go_grown)).cur (by omega) (by omega)).mono ?_
              rintro e w8 ⟨⟨v3, rfl, d30, d31⟩, hc8, hg8⟩
              have HV := hid (show 0 ≤ v3 ∧ v3 ≤ 8 from ⟨d30, by omega⟩)
              clear d30 d31
              have S8 := hid ((S7.out.below (by go_grown)).step hc8 hg8)
              obtain ⟨p0, p1⟩ := two_of S8.out.box
              have hlt8 := S8.out.lt
              clear hc8 hg8 hHeld
              refine hKn.out _ _ ⟨p0, p1⟩ (fun hHeld => ?_)
              clear hKn Kn
              try simp only [Act.put, List.setIfInBounds_toArray, List.set_cons_zero, List.set_cons_succ]
              refine AnyTo.take (i := 11) (v := ?_) rfl (by kernel_rfl) (by kernel_rfl) (by kernel_rfl) (by kernel_rfl) (fun _ _ _ h => h) (Or.inl ⟨by rfl, ?_⟩) (by assumption) ?_
              rotate_left
              · (intro w' hSw; (try dsimp only at hSw); go_simp; all_goals with_reducible rfl)
              try simp only [Act.put, List.setIfInBounds_toArray, List.set_cons_zero, List.set_cons_succ]
              refine AnyTo.take (i := 12) (v := ?_) rfl (by kernel_rfl) (by kernel_rfl) (by kernel_rfl) (by kernel_rfl) (fun _ _ _ h => h) (Or.inl ⟨by rfl, ?_⟩) (by assumption) ?_
              rotate_left
              · (intro w' hSw; (try dsimp only at hSw); go_simp; all_goals with_reducible rfl)
              try simp only [Act.put, List.setIfInBounds_toArray, List.set_cons_zero, List.set_cons_succ]
              refine AnyTo.one (i := 13) rfl (by kernel_rfl) (fun Kn hKn => ?_)
              go_simp
              have BW := hid (by go_grown : Below w8.heap.size w8 (w8.alloc (.cells #[.int .i64 q0, .int .i64 F, .int .i64 (IntKind.i64.wrap (1 + F.tmod M)), .int .i64 (IntKind.i64.wrap (1 + v3))] 71)))
              have HS1 := hid (SAt.single (e := 71) w8 (q0, F, IntKind.i64.wrap (1 + F.tmod M), IntKind.i64.wrap (1 + v3)) qf_len)
              clear hHeld
              refine hKn.out _ _ (two_of ((S8.out.below BW.out).box)) (fun hHeld => ?_)
              clear hKn Kn
              try simp only [Act.put, List.setIfInBounds_toArray, List.set_cons_zero, List.set_cons_succ]
              refine AnyTo.one (i := 14) rfl (by kernel_rfl) (fun Kn hKn => ?_)
              refine step_append_q (by rfl) _ _ (by rfl) (b3 + 1) _ L (by rfl) (OwnS.alloc S8.out.own _) _ 1 _ [(q0, F, IntKind.i64.wrap (1 + F.tmod M), IntKind.i64.wrap (1 + v3))] (by rfl) HS1.out (m + 1) (by have := OwnS.len S8.out.own; simp; omega) (by omega) (by simp; omega) ?_
              intro a5 c5 w12 hown hgrow hblk
              have hgr2 : w8.grownBy w12 (Value.ownBlock (.slice a' m c')) := grownBy_trans (grown_of_below BW.out _) hgrow
              have hbx := (hgr2.block b3 hlt8 (fun e => by have := (OwnS.lt S8.out.own _ e.symm).1; omega)).trans S8.out.box
              have hz12 := hgr2.size
              obtain ⟨u0, u1⟩ := two_of hbx
              have fu := fun j => frozen_of_row w12 b3 j _ _ hbx
              have hb12 : b3 < w12.heap.size := by omega
              have SN := hid (S8.out.put hgr2 hown)
              clear hown hgrow hblk hgr2 hbx hHeld p0 p1
              refine hKn.out _ _ ⟨u0, u1⟩ (fun hHeld => ?_)
              clear hKn Kn
              try simp only [Act.put, List.setIfInBounds_toArray, List.set_cons_zero, List.set_cons_succ]
              refine AnyTo.take (i := 15) (v := ?_) rfl (by kernel_rfl) (by kernel_rfl) (by kernel_rfl) (by kernel_rfl) (fun _ _ _ h => h) (Or.inl ⟨by rfl, ?_⟩) (by assumption) ?_
              rotate_left
              · (intro w' hSw; (try dsimp only at hSw); go_simp; all_goals with_reducible rfl)
              try simp only [Act.put, List.setIfInBounds_toArray, List.set_cons_zero, List.set_cons_succ]
              refine AnyTo.last rfl (by kernel_rfl) (by kernel_rfl) (fun Kn hKn => ?_)
              go_simp
              refine hKn.out _ _ ?_
              clear hKn Kn
              try simp only [Act.put, List.setIfInBounds_toArray, List.set_cons_zero, List.set_cons_succ]
              refine NoPanic.normal ?_
              clear hHeld
              have hwq := IntWalk.i64_in ((q : Int) - 1) (by omega)
              clear u0 u1 fu
              go_wp2
              go_roundg (q - 1)
              case rel => exact ⟨q - 1, _, _, _, _, _, by omega, rfl, rfl, by first | rfl | (congr 1; omega), by omega, hid (SN.out.le (by omega)), by have := HQ.out; omega, hid (HU.out.app HQ.out.1 (round_ok (by have := HU.out.1; have := HQ.out; omega) (by omega) HF.out HV.out))⟩
              case measure => omega
            · have h3i : ¬ (m : Int) < 10 := by omega
              have TZ := hid ((hh.out.gro.block w.heap.size hz0 (fun e => by have := Option.some.inj e; omega)).trans T0.out)
              obtain ⟨z0, z1⟩ := two_of TZ.out
              have fz := fun j => frozen_of_row wr w.heap.size j _ _ TZ.out
              have hne : ¬ w.heap.size = b3 := by omega
              have hne2 : ¬ b3 = w.heap.size := by omega
              have hzr : w.heap.size < wr.heap.size := by omega
              go_wp2
              refine bodyPost_ret (v := .agg #[.int .i64 M, .slice a' m c']) (by simp [results, Try.results88, go_sem, *]) rfl ⟨⟨M, a', m, c', rfl, ⟨by omega, by omega, hm⟩, L, ?_, HU.out.good (by omega) (by have := OwnS.len hh.out.own; omega)⟩, ?_, ?_⟩
              · exact ((OwnS.far (OwnS.far hh.out.own (by omega)) (by omega))).mono (by omega)
              · exact (((hh.out.cur.le (by omega)).set hgz).set hgz)
              · exact grown_set (grown_set (grownBy_trans (grown_of_below B0.out _) hh.out.gro) (Nat.le_refl _)) (Nat.le_refl _)
          · have h2i : ¬ (1 : Int) < (M : Int) := by omega
            have TZ := hid ((hh.out.gro.block w.heap.size hz0 (fun e => by have := Option.some.inj e; omega)).trans T0.out)
            obtain ⟨z0, z1⟩ := two_of TZ.out
            have fz := fun j => frozen_of_row wr w.heap.size j _ _ TZ.out
            have hne : ¬ w.heap.size = b3 := by omega
            have hne2 : ¬ b3 = w.heap.size := by omega
            have hzr : w.heap.size < wr.heap.size := by omega
            go_wp2
            refine bodyPost_ret (v := .agg #[.int .i64 M, .slice a' m c']) (by simp [results, Try.results88, go_sem, *]) rfl ⟨⟨M, a', m, c', rfl, ⟨by omega, by omega, hm⟩, L, ?_, HU.out.good (by omega) (by have := OwnS.len hh.out.own; omega)⟩, ?_, ?_⟩
            · exact ((OwnS.far (OwnS.far hh.out.own (by omega)) (by omega))).mono (by omega)
            · exact (((hh.out.cur.le (by omega)).set hgz).set hgz)
            · exact grown_set (grown_set (grownBy_trans (grown_of_below B0.out _) hh.out.gro) (Nat.le_refl _)) (Nat.le_refl _)
        · have h1i : ¬ (0 : Int) < (q : Int) := by omega
          have TZ := hid ((hh.out.gro.block w.heap.size hz0 (fun e => by have := Option.some.inj e; omega)).trans T0.out)
          obtain ⟨z0, z1⟩ := two_of TZ.out
          have fz := fun j => frozen_of_row wr w.heap.size j _ _ TZ.out
          have hne : ¬ w.heap.size = b3 := by omega
          have hne2 : ¬ b3 = w.heap.size := by omega
          have hzr : w.heap.size < wr.heap.size := by omega
          go_wp2
          refine bodyPost_ret (v := .agg #[.int .i64 M, .slice a' m c']) (by simp [results, Try.results88, go_sem, *]) rfl ⟨⟨M, a', m, c', rfl, ⟨by omega, by omega, hm⟩, L, ?_, HU.out.good (by omega) (by have := OwnS.len hh.out.own; omega)⟩, ?_, ?_⟩
          · exact ((OwnS.far (OwnS.far hh.out.own (by omega)) (by omega))).mono (by omega)
          · exact (((hh.out.cur.le (by omega)).set hgz).set hgz)
          · exact grown_set (grown_set (grownBy_trans (grown_of_below B0.out _) hh.out.gro) (Nat.le_refl _)) (Nat.le_refl _)


end Go.Proofs.Ytikjighlnpdgiaa

