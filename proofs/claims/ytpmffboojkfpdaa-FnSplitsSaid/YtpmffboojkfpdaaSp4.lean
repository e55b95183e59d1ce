/-
  Texts of this claim, joined: SplitI, SplitR, SplitF, SplitQ, TakeH, LastH, Lift, LiftG.
-/
import Derived.StillTailTactics
import Derived.Test.YtpmffboojkfpdaaRows
import Derived.ProofKit
import Derived.OpenShut
import Derived.Carry
import Derived.Lib.SmallJoins
import Derived.Test.YtpmffboojkfpdaaSp1
import Derived.Test.YtpmffboojkfpdaaSp3
/-
  SplitFlow in the program: the table of leastS sums, and the parts read off it.
-/
set_option linter.unusedVariables false
set_option linter.unusedSimpArgs false
namespace Go.Proofs.Ytpmffboojkfpdaa
open Go.RowKit

theorem sz_fit {S : List Int} {n : Nat} (hl : S.length = n) (hS : ∀ x ∈ S, 1 ≤ x ∧ x ≤ 9) {i : Nat} (hi : i < n) : 1 ≤ sz S i ∧ sz S i ≤ 9 := hS _ (getD_mem' (l := S) (k := i) (by omega))

set_option maxRecDepth 100000 in
set_option maxHeartbeats 16000000 in
theorem i_SplitFlow_yes (a : Option Addr) (n c t : Nat) (S : List Int) (w : World) (h : IntsAt w a n S) (hg : goodSizes S = true) (ht : t ≤ 60) :
    Calls Try.prog 52 #[.slice a n c, .int .i64 (t : Int)] w fun e w' => ∃ a' c', e = .returned (.tuple #[.slice a' n c', .bool true]) ∧ OwnI w' w.heap.size (.slice a' n c') (liftN (greedy S t)) ∧ Below w.heap.size w w' := by
  obtain ⟨i0, hi, hz0, hz1, hz2⟩ := info_parts Try.infoInts
  obtain ⟨j0, hj, hy0, hy1, hy2⟩ := info_parts Try.infoInt
  obtain ⟨⟨hn1, hn5⟩, hS⟩ := goodSizes_iff.1 hg
  have hl := h.1
  have H := hid h
  have HG := hid hg
  have HS := hid hS
  have HL := hid hl
  have HI := hid hi
  have HZ := hid hz0
  have HZ1 := hid hz1
  have HZ2 := hid hz2
  have HJ := hid hj
  have HY := hid hy0
  have HY1 := hid hy1
  have HY2 := hid hy2
  have H60 := hid (show inR (t : Int) 0 60 = true from inR_iff.2 ⟨by omega, by omega⟩)
  rw [hl] at hn1 hn5
  clear h hg hS hl hi hz0 hz1 hz2 hj hy0 hy1 hy2
  obtain ⟨N, hN⟩ : ∃ N, n + 1 = N := ⟨_, rfl⟩
  obtain ⟨T, hT⟩ : ∃ T, t + 1 = T := ⟨_, rfl⟩
  have hwN : IntKind.i64.wrap ((n : Int) + 1) = (N : Int) := by rw [IntWalk.i64_in _ (by omega)]; omega
  have hwT : IntKind.i64.wrap ((t : Int) + 1) = (T : Int) := by rw [IntWalk.i64_in _ (by omega)]; omega
  have hnN : n < N := by omega
  have hnNi : (n : Int) < (N : Int) := by omega
  have HNN := hid hN
  have HTT := hid hT
  have hT1 : 1 ≤ T ∧ T ≤ 61 := by omega
  have hN1 : N ≤ 6 := by omega
  clear hN hT
  go_enter Try.func52, Try.ntmps52
  go_wp2_with fail
  refine (i_areSizes _ _ _ S _ H.out (by omega)).mono ?_
  rintro e w1 ⟨rfl, hb1⟩
  rw [HG.out]
  have HB1 := hid hb1
  clear hb1
  go_wp2_with fail
  refine (i_inside _ _ _ _).mono ?_
  rintro e _ ⟨rfl, rfl⟩
  rw [H60.out]
  go_wp2_with (at_make; refine wpList_make_full _ rfl _ _ 90 rfl w1.heap.size 22 i0 (.slice none 0 0) 1 Try.underlying90 HI.out HZ.out HZ1.out _ _ _ _ N rfl rfl rfl rfl ?b2 ?b3 ?b4 ?_)
  case b2 => rw [HZ2.out]; omega
  case b3 => unfold maxLen; omega
  case b4 => exact Nat.le_refl _
  intro w2 hown hgrow
  have ho : OwnS vf 1 22 w2 w1.heap.size _ (List.replicate N ((none, 0, 0) : VRow)) := OwnS.of_row vf_len (by decide) (n := N) (by have e := madeFlat vf 1 vf_len (by decide) ((none, 0, 0) : VRow) #[.slice none 0 0] rfl N; rw [Nat.mul_one] at e; rw [← e]; exact hown)
  have hb2 := bstep HB1.out (below_of_grown hgrow (Nat.le_refl _) (fun k hk => by simp at hk))
  have hgl := OwnS.lt ho _ rfl
  have T2 := hid (show Tab w w2 w2.heap.size w1.heap.size N T n t S (n + 1) from ⟨⟨_, ho.mono HB1.out.size⟩, hgl.2, Nat.le_refl _, fun j hj hn => by omega, hb2⟩)
  clear hown hgrow ho hb2 hgl
  generalize w1.heap.size = g at *
  go_wp2_with (at_make; refine wpList_make_full _ rfl _ _ 22 rfl w2.heap.size 3 j0 (.int .i64 0) 1 Try.underlying22 HJ.out HY.out HY1.out _ _ _ _ T rfl rfl rfl rfl ?b2 ?b3 ?b4 ?_)
  case b2 => rw [HY2.out]; omega
  case b3 => unfold maxLen; omega
  case b4 => exact Nat.le_refl _
  intro w3 hown hgrow
  have T3 := hid (T2.out.below (below_of_grown hgrow (Nat.le_refl _) (fun k hk => by simp at hk)))
  have O3 := hid (OwnI.made hown)
  clear hown hgrow
  generalize w2.heap.size = Z at *
  obtain ⟨⟨v0, y0⟩, f0⟩ := T3.out.cell0 hnN
  have F0 := hid (T3.out.put hnN (Nat.le_refl _) O3.out)
  go_wp2
  clear y0 f0 T2
  go_loopg [7] (T - 1) (fun gm s wr => ∃ (q : Nat) (l : List Int), 1 ≤ q ∧ q ≤ T ∧ gm = T - q ∧ s = .int .i64 q ∧ Hid (Fill w wr Z g N T n t S n l) ∧ Hid (∀ x, x < q → l[x]?.getD 0 = leastS (S.drop n) x))
  case atStart =>
    have e0 : ∀ x, x < 1 → (List.replicate T (0 : Int))[x]?.getD 0 = leastS (S.drop n) x := fun x hx => by
      obtain rfl : x = 0 := by omega
      rw [List.drop_of_length_le (by have := HL.out; omega)]
      simp [leastS, show 0 < T by omega]
    exact ⟨1, _, by omega, by omega, rfl, rfl, F0, hid e0⟩
  case round =>
    obtain ⟨q, l, hq1, hqT, rfl, rfl, hF, hh⟩ := hrel
    clear F0 T3 O3
    by_cases hlt : q ≤ t
    · have hlti : (q : Int) ≤ (t : Int) := by omega
      have hqTi : (q : Int) < (T : Int) := by have := HTT.out; omega
      have hqT2 : q < T := by omega
      have hcu := hF.out.cur
      have hoc := hF.out.own.cell (k := q) hqT2
      have hof := hF.out.own.frozen (k := q)
      have SS := hid (hF.out.set q 1099511627776)
      have hlen := hF.out.own.len
      have HLN := hid hlen
      clear hlen
      go_wp2
      go_roundg (T - (q + 1))
      case rel =>
        refine ⟨q + 1, _, by omega, by omega, rfl, by go_num, SS, hid (fun x hx => ?_)⟩
        by_cases e : x = q
        · subst e
          rw [List.getElem?_set_self (by have := HLN.out; omega), List.drop_of_length_le (by have := HL.out; omega)]
          simp [leastS]; omega
        · rw [List.getElem?_set_ne (by omega)]
          exact hh.out x (by omega)
      case measure => omega
    · have hlti : ¬ (q : Int) ≤ (t : Int) := by omega
      obtain rfl : q = T := by have := HTT.out; omega
      have TN := hid (hF.out.done HTT.out hh.out)
      have hwn : IntKind.i64.wrap ((n : Int) - 1) = (n : Int) - 1 := IntWalk.i64_in _ (by omega)
      clear hF hh hlti
      go_wp2
      go_loopg [8] n (fun gm s wr => ∃ (k Zb : Nat) (x : Int), k ≤ n ∧ k = gm ∧ s = .int .i64 x ∧ x = (k : Int) - 1 ∧ Hid (Tab w wr Zb g N q n t S k))
      case atStart => exact ⟨n, _, _, Nat.le_refl _, rfl, rfl, rfl, TN⟩
      case round =>
        obtain ⟨k, Zb, x, hk, rfl, rfl, hx, hTb⟩ := hrel
        clear TN
        by_cases hk0 : k = 0
        · subst hk0
          have hxn : ¬ 0 ≤ x := by omega
          have HTB := hid (hTb.out.le hTb.out.zs (Nat.le_refl _))
          obtain ⟨Zc, hZc⟩ : ∃ Zc, wr.heap.size = Zc := ⟨_, rfl⟩
          rw [hZc] at HTB
          have HZC := hid hZc
          clear hZc hTb
          obtain ⟨G, hG⟩ : ∃ G, greedy S t = G := ⟨_, rfl⟩
          have HGL := hid (show G.length = n by rw [← hG, greedy_len]; exact HL.out)
          have HGS := hid (show G.sum = t by rw [← hG, greedy_sum (by have := HL.out; omega)])
          have HGA := hid (fun i (hi : i < n) => by have := greedy_at (S := S) (k := t) (i := i) (by have := HL.out; omega) HS.out ht (by have := HL.out; omega); rw [hG] at this; exact this)
          have HGE := hid hG
          clear hG
          have HOW := hid (show OwnI (wr.alloc (.cells #[] 3)) Zc (.slice (some ⟨wr.heap.size, 0, none⟩) 0 0) [] by have := OwnI.lit0 wr; rw [HZC.out] at this ⊢; exact this)
          have HTC := hid (HTB.out.below (by go_grown : Below wr.heap.size wr (wr.alloc (.cells #[] 3))))
          go_wp2
          clear HTB HZC
          generalize wr.alloc (.cells #[] 3) = wa at *
          have HS0 := hid (show OwnI wa Zc (.slice (some ⟨wr.heap.size, 0, none⟩) 0 0) (liftN (G.take 0)) from HOW.out)
          have hr0 : (t : Int) = ((rest G 0 : Nat) : Int) := by rw [rest_zero, HGS.out]
          go_loopg [1, 11, 115] n (fun gm s1 s11 s115 wr => ∃ (i : Nat) (a' : Option Addr) (c' : Nat), i ≤ n ∧ gm = n - i ∧ s1 = .int .i64 ((rest G i : Nat) : Int) ∧ s11 = .slice a' i c' ∧ s115 = .int .i64 i ∧ Hid (Tab w wr Zc g N q n t S 0) ∧ Hid (OwnI wr Zc (.slice a' i c') (liftN (G.take i))))
          case atStart => exact ⟨0, _, 0, Nat.zero_le _, rfl, by rw [hr0], rfl, rfl, HTC, HS0⟩
          case round =>
            obtain ⟨i, a', c', hi, rfl, rfl, rfl, rfl, hT, hO⟩ := hrel
            clear HTC HOW HS0 hr0
            by_cases hlt : i < n
            · obtain ⟨r, hr⟩ : ∃ r, rest G i = r := ⟨_, rfl⟩
              have hrt : r ≤ t := by have := rest_le G i; have := HGS.out; omega
              have hrs := rest_succ G i (by have := HGL.out; omega)
              rw [hr] at hrs ⊢
              have hga := HGA.out i hlt
              rw [hr] at hga
              have HGI := hid hga
              have hsz := sz_fit HL.out HS.out hlt
              obtain ⟨b0, off0, rfl, hbw, hcl⟩ := (H.out.below hT.out.bel).2 i hlt
              have hcl2 : wr.cell? ⟨b0, off0 + i, none⟩ = some (.int .i64 (sz S i)) := hcl
              obtain ⟨z, hz⟩ : ∃ z, qt G i = z := ⟨_, rfl⟩
              rw [hz] at hrs HGI
              obtain ⟨v2, hv2⟩ : ∃ v, sz S i = v := ⟨_, rfl⟩
              rw [hv2] at hsz hcl2 HGI
              clear hv2
              have HQZ := hid hz
              have HRR := hid hr
              have HRS := hid hrs
              have hzr : z ≤ r := by omega
              obtain ⟨W0, hW0⟩ : ∃ W, W = wr := ⟨_, rfl⟩
              subst hW0
              clear hga hcl hz hr hrs
              go_wp2
              go_loopg [14] (r - z) (fun gm s wx => ∃ p : Nat, z ≤ p ∧ p ≤ r ∧ gm = p - z ∧ s = .int .i64 p ∧ Hid (Below W0.heap.size W0 wx))
              case atStart => exact ⟨r, by omega, Nat.le_refl _, rfl, rfl, hid (Below.refl _ _)⟩
              case round =>
                obtain ⟨p, hp1, hp2, rfl, rfl, hB⟩ := hrel
                clear hcl2 hbw
                have HT2 := hid (hT.out.below hB.out)
                obtain ⟨b1, q1, q2, q3, q4⟩ := HT2.out.rows (i + 1) (by omega) (by omega)
                have q5 := q4 (r - p) (by omega)
                obtain ⟨b2, x1, x2, x3, x4⟩ := HT2.out.rows i (by omega) (by omega)
                have x5 := x4 r (by omega)
                obtain ⟨d, hd⟩ : ∃ d, r - p = d := ⟨_, rfl⟩
                obtain ⟨i1, hi1⟩ : ∃ i1, i + 1 = i1 := ⟨_, rfl⟩
                have hlr := least_range (S.drop (i + 1)) (r - p) (fun s hs => (HS.out s (List.mem_of_mem_drop hs)).1)
                have hcf := cube_fit (x := v2) (y := (p : Int)) hsz (by omega)
                have hw1 := IntWalk.i64_in (v2 * (p : Int)) (by omega)
                have hw2 := IntWalk.i64_in (v2 * (p : Int) * (p : Int)) (by omega)
                have hw3 := IntWalk.i64_in (v2 * (p : Int) * (p : Int) * (p : Int)) (by omega)
                have hw4 := IntWalk.i64_in (v2 * (p : Int) * (p : Int) * (p : Int) + leastS (S.drop (i + 1)) (r - p)) (by omega)
                have hw5 : IntKind.i64.wrap ((r : Int) - (p : Int)) = (d : Int) := by rw [IntWalk.i64_in _ (by omega)]; omega
                have hw6 : IntKind.i64.wrap ((i : Int) + 1) = (i1 : Int) := by rw [IntWalk.i64_in _ (by omega)]; omega
                have hi1N : i1 < N := by have := HNN.out; omega
                have hiN : i < N := by omega
                have hdq : d < q := by have := HTT.out; omega
                have hrq : r < q := by have := HTT.out; omega
                rw [hd] at q5
                rw [hi1] at q3
                by_cases hpz : p = z
                · subst hpz
                  have hrp : rest G (i + 1) = r - p := by have := HRS.out; omega
                  have HRP := hid hrp
                  have hcond : (v2 * (p : Int) * (p : Int) * (p : Int) + leastS (S.drop (i + 1)) (r - p) != leastS (S.drop i) r) = false := by
                    have h1 := HGI.out.1
                    rw [hrp] at h1
                    unfold cube at h1
                    simp [h1]
                  rw [hd] at hlr hw4 hcond
                  generalize leastS (S.drop (i + 1)) d = v1 at *
                  generalize leastS (S.drop i) r = v3 at *
                  have HI1 := hid hi1
                  have HDR := hid (show rest G (i + 1) = d by omega)
                  clear q4 x4 hd hi1 hrp
                  go_upto_region 28 with fail
                  go_quiet (fail)
                  clear q3 q5 x3 x5
                  have T3 := hid (HT2.out.below (bdraws nq))
                  have O3 := hid (hO.out.below (below_drewN hB.out nq))
                  generalize wr.drewN nq = w3 at *
                  have hl3 := O3.out.len
                  have hs3 := T3.out.zs
                  go_wp2_with (at_builtin; refine wp_append_ints _ rfl _ _ rfl Zc _ (liftN (G.take i)) rfl (O3.out.alloc _) _ 1 1 [(p : Int)] rfl (IntsAt.single _ _) (i + 1) (by omega) (by omega) (by simp; omega) ?_)
                  intro a5 c5 w5 hown hgrow hblk
                  have T5 := hid ((T3.out.below (by go_grown : Below w3.heap.size w3 (w3.alloc (.cells #[.int .i64 (p : Int)] 3)))).kept hgrow (fun k hk => (O3.out.lt k hk).1) (fun k hk => by have := (O3.out.lt k hk).1; have := T3.out.gz; obtain ⟨R, hR⟩ := T3.out.out; have h9 : w.heap.size ≤ g := (OwnS.lt hR g rfl).1; omega))
                  have O5 := hid (show OwnI w5 Zc (.slice a5 (i + 1) c5) (liftN (G.take (i + 1))) by rw [liftN_take G i (by have := HGL.out; omega), HQZ.out]; exact hown)
                  clear hown hgrow hblk hl3 hs3
                  go_wp2
                  go_roundg (n - (i + 1))
                  case rel => exact ⟨i + 1, _, _, by omega, rfl, by rw [HDR.out], rfl, by rw [HI1.out], T5, O5⟩
                  case measure => omega
                · have hcond : (v2 * (p : Int) * (p : Int) * (p : Int) + leastS (S.drop (i + 1)) (r - p) != leastS (S.drop i) r) = true := by
                    have h1 := HGI.out.2 p (by omega) (by omega)
                    unfold cube at h1
                    simpa using h1
                  rw [hd] at hlr hw4 hcond
                  generalize leastS (S.drop (i + 1)) d = v1 at *
                  generalize leastS (S.drop i) r = v3 at *
                  have hwp : IntKind.i64.wrap ((p : Int) - 1) = ((p - 1 : Nat) : Int) := by rw [IntWalk.i64_in _ (by omega)]; omega
                  clear q4 x4 hd hi1
                  go_upto_region 28 with fail
                  go_quiet (fail)
                  go_wp2
                  go_roundg (p - 1 - z)
                  case rel => exact ⟨p - 1, by omega, by omega, rfl, rfl, hid (below_drewN hB.out _)⟩
                  case measure => omega
            · obtain rfl : i = n := by omega
              go_wp2
              go_ret2
              have e9 : G.take i = G := List.take_of_length_le (by have := HGL.out; omega)
              have o9 := hO.out
              rw [e9] at o9
              rw [HGE.out]
              have h9 : w.heap.size ≤ Zc := by have := hT.out.gz; obtain ⟨R, hR⟩ := hT.out.out; have h9 : w.heap.size ≤ g := (OwnS.lt hR g rfl).1; omega
              exact ⟨_, _, rfl, o9.mono h9, hT.out.bel⟩
        · obtain ⟨i, rfl⟩ : ∃ i, k = i + 1 := ⟨k - 1, by omega⟩
          obtain rfl : x = (i : Int) := by omega
          have hi0 : (0 : Int) ≤ (i : Int) := by omega
          have hin : i < n := by omega
          have hiN : i < N := by omega
          have hiNi : (i : Int) < (N : Int) := by omega
          clear hx
          go_wp2_with (at_make; refine wpList_make_full _ rfl _ _ 22 rfl wr.heap.size 3 j0 (.int .i64 0) 1 Try.underlying22 HJ.out HY.out HY1.out _ _ _ _ q rfl rfl rfl rfl ?b2 ?b3 ?b4 ?_)
          case b2 => rw [HY2.out]; omega
          case b3 => unfold maxLen; omega
          case b4 => exact Nat.le_refl _
          intro w5 hown hgrow
          have T5 := hid (hTb.out.below (below_of_grown hgrow (Nat.le_refl _) (fun k hk => by simp at hk)))
          have O5 := hid (OwnI.made hown)
          have hzb := hTb.out.zs
          clear hown hgrow
          generalize wr.heap.size = Z5 at *
          obtain ⟨⟨v5, y5⟩, f5⟩ := T5.out.cell0 hiN
          have F5 := hid (T5.out.put hiN hzb O5.out)
          go_wp2
          clear y5 f5 hTb T5 O5 hzb
          have HIN := hid hin
          have hsz := sz_fit HL.out HS.out hin
          go_loopg [61] q (fun gm s wr => ∃ (al : Nat) (l : List Int), al ≤ q ∧ gm = q - al ∧ s = .int .i64 al ∧ Hid (Fill w wr Z5 g N q n t S i l) ∧ Hid (∀ x, x < al → l[x]?.getD 0 = leastS (S.drop i) x))
          case atStart => exact ⟨0, _, Nat.zero_le _, rfl, rfl, F5, hid (fun x hx => by omega)⟩
          case round =>
            obtain ⟨al, l, hal, rfl, rfl, hF, hh⟩ := hrel
            clear F5
            by_cases hlt : al < q
            · have hcu := hF.out.cur
              have hoc := hF.out.own.cell (k := al) hlt
              have hof := hF.out.own.frozen (k := al)
              have F6 := hid (hF.out.set al 1099511627776)
              have hl6 : al < l.length := by rw [hF.out.own.len]; exact hlt
              have e6 : (l.set al 1099511627776)[al]?.getD 0 = mins (fun p => cube (sz S i) p + leastS (S.drop (i + 1)) (al - p)) 0 := by rw [List.getElem?_set_self hl6]; rfl
              have e7 : ∀ x, x < al → (l.set al 1099511627776)[x]?.getD 0 = leastS (S.drop i) x := fun x hx => by rw [List.getElem?_set_ne (by omega)]; exact hh.out x hx
              have E6 := hid e6
              have E7 := hid e7
              have hwa : IntKind.i64.wrap ((al : Int) + 1) = ((al + 1 : Nat) : Int) := by rw [IntWalk.i64_in _ (by omega)]; omega
              clear e6 e7 hF hh hl6
              go_wp2
              clear hcu hoc hof
              generalize l.set al 1099511627776 = l6 at *
              go_loopg [72] (al + 1) (fun gm s wr => ∃ (p : Nat) (l : List Int), p ≤ al + 1 ∧ gm = al + 1 - p ∧ s = .int .i64 p ∧ Hid (Fill w wr Z5 g N q n t S i l) ∧ Hid (l[al]?.getD 0 = mins (fun p => cube (sz S i) p + leastS (S.drop (i + 1)) (al - p)) p) ∧ Hid (∀ x, x < al → l[x]?.getD 0 = leastS (S.drop i) x))
              case atStart => exact ⟨0, _, Nat.zero_le _, rfl, rfl, F6, E6, E7⟩
              case round =>
                obtain ⟨p, l, hp, rfl, rfl, hF, h6, h7⟩ := hrel
                clear F6 E6 E7
                by_cases hlp : p < al + 1
                · have hcu := hF.out.cur
                  have hoc := hF.out.own.cell (k := al) hlt
                  have hof := hF.out.own.frozen (k := al)
                  obtain ⟨b1, q1, q2, q3, q4⟩ := hF.out.tab.rows (i + 1) (by omega) (by omega)
                  have q5 := q4 (al - p) (by have := HTT.out; omega)
                  obtain ⟨b0, off0, rfl, hbw, hcl⟩ := (H.out.below hF.out.tab.bel).2 i hin
                  have hcl2 : wr.cell? ⟨b0, off0 + i, none⟩ = some (.int .i64 (sz S i)) := hcl
                  have hbz : b0 < wr.heap.size := hbw
                  have hz5 := (hF.out.own.lt Z5 rfl).2
                  have hl6 : al < l.length := by rw [hF.out.own.len]; exact hlt
                  have E8 := hid (show (l.set al (min (l[al]?.getD 0) (cube (sz S i) p + leastS (S.drop (i + 1)) (al - p))))[al]?.getD 0 = mins (fun p => cube (sz S i) p + leastS (S.drop (i + 1)) (al - p)) (p + 1) by rw [List.getElem?_set_self hl6, h6.out]; rfl)
                  have E9 := hid (show ∀ x, x < al → (l.set al (min (l[al]?.getD 0) (cube (sz S i) p + leastS (S.drop (i + 1)) (al - p))))[x]?.getD 0 = leastS (S.drop i) x from fun x hx => by rw [List.getElem?_set_ne (by omega)]; exact h7.out x hx)
                  have hlr := least_range (S.drop (i + 1)) (al - p) (fun s hs => (HS.out s (List.mem_of_mem_drop hs)).1)
                  have hcf := cube_fit (x := sz S i) (y := (p : Int)) hsz (by omega)
                  have hw1 := IntWalk.i64_in (sz S i * (p : Int)) (by omega)
                  have hw2 := IntWalk.i64_in (sz S i * (p : Int) * (p : Int)) (by omega)
                  have hw3 := IntWalk.i64_in (sz S i * (p : Int) * (p : Int) * (p : Int)) (by omega)
                  have hw4 := IntWalk.i64_in (sz S i * (p : Int) * (p : Int) * (p : Int) + leastS (S.drop (i + 1)) (al - p)) (by omega)
                  obtain ⟨d, hd⟩ : ∃ d, al - p = d := ⟨_, rfl⟩
                  obtain ⟨i1, hi1⟩ : ∃ i1, i + 1 = i1 := ⟨_, rfl⟩
                  have hw5 : IntKind.i64.wrap ((al : Int) - (p : Int)) = (d : Int) := by rw [IntWalk.i64_in _ (by omega)]; omega
                  have hw6 : IntKind.i64.wrap ((i : Int) + 1) = (i1 : Int) := by rw [IntWalk.i64_in _ (by omega)]; omega
                  have hi1N : i1 < N := by have := HNN.out; omega
                  have hapq : d < q := by omega
                  have hwp : IntKind.i64.wrap ((p : Int) + 1) = ((p + 1 : Nat) : Int) := by rw [IntWalk.i64_in _ (by omega)]; omega
                  rw [hd] at q5
                  rw [hi1] at q3
                  obtain ⟨v1, hv1⟩ : ∃ v, leastS (S.drop (i + 1)) (al - p) = v := ⟨_, rfl⟩
                  obtain ⟨v0, hv0⟩ : ∃ v, l[al]?.getD 0 = v := ⟨_, rfl⟩
                  obtain ⟨v2, hv2⟩ : ∃ v, sz S i = v := ⟨_, rfl⟩
                  rw [hv0] at hoc
                  rw [← hd, hv1] at q5
                  rw [hd] at q5
                  have HV := hid (show l[al]?.getD 0 = v0 ∧ leastS (S.drop (i + 1)) (al - p) = v1 ∧ sz S i = v2 from ⟨hv0, hv1, hv2⟩)
                  rw [hv1] at hlr hw4
                  rw [hv2] at hcl2 hcf hw1 hw2 hw3 hw4 hsz
                  clear hv0 hv1 hv2 hcl h6 h7 hd hi1 q4 hl6
                  go_upto_region 20 with fail
                  go_still_tail 35, (by kernel_rfl)
                  change wpList _ _ _ _ _ wr.drew
                  have F9 := hid (hF.out.below (Below.refl _ _).drew : Fill w wr.drew Z5 g N q n t S i l)
                  have hcu9 := F9.out.cur
                  have hoc9 : wr.drew.cell? ⟨Z5, al, none⟩ = some (.int .i64 v0) := hoc
                  have hof9 := F9.out.own.frozen (k := al)
                  generalize wr.drew = w9 at *
                  clear hcu hoc hof q3 q5 hcl2 hF
                  go_wp2
                  · rename_i hmin
                    have em : min v0 (cube v2 p + v1) = v2 * (p : Int) * (p : Int) * (p : Int) + v1 := by unfold cube; omega
                    go_roundg (al + 1 - (p + 1))
                    case rel =>
                      obtain ⟨hv0, hv1, hv2⟩ := HV.out
                      rw [hv0, hv1, hv2, em] at E8 E9
                      refine ⟨p + 1, _, by omega, rfl, rfl, hid (F9.out.set al _), hid ?_, E9⟩
                      rw [hv2]
                      exact E8.out
                    case measure => omega
                  · rename_i hmin
                    have em : min v0 (cube v2 p + v1) = v0 := by unfold cube; omega
                    go_roundg (al + 1 - (p + 1))
                    case rel =>
                      obtain ⟨hv0, hv1, hv2⟩ := HV.out
                      rw [hv0, hv1, hv2, em] at E8 E9
                      refine ⟨p + 1, _, by omega, rfl, rfl, hid (F9.out.set al _), hid ?_, E9⟩
                      rw [hv2]
                      exact E8.out
                    case measure => omega
                · obtain rfl : p = al + 1 := by omega
                  have E8 := hid (show ∀ x, x < al + 1 → l[x]?.getD 0 = leastS (S.drop i) x from fun x hx => by
                    by_cases e : x = al
                    · subst e; rw [h6.out, drop_S S i (by have := HL.out; omega)]; rfl
                    · exact h7.out x (by omega))
                  go_wp2
                  go_roundg (q - (al + 1))
                  case rel => exact ⟨al + 1, _, by omega, rfl, by go_num, hF, E8⟩
                  case measure => omega
            · obtain rfl : al = q := by omega
              have hwi : IntKind.i64.wrap ((i : Int) - 1) = (i : Int) - 1 := IntWalk.i64_in _ (by omega)
              have TD := hid (hF.out.done HTT.out hh.out)
              go_wp2
              go_roundg i
              case rel => exact ⟨i, _, _, by omega, rfl, rfl, rfl, TD⟩
              case measure => omega

end Go.Proofs.Ytpmffboojkfpdaa

/-
  SplitFlow in the reference: unit by unit; and what SplitFlow returns, in both.
-/
set_option linter.unusedVariables false
set_option linter.unusedSimpArgs false
namespace Go.Proofs.Ytpmffboojkfpdaa
open Go.RowKit

theorem sz_fit' {S : List Int} {n : Nat} (hl : S.length = n) (hS : ∀ x ∈ S, 1 ≤ x ∧ x ≤ 9) {i : Nat} (hi : i < n) : 1 ≤ sz S i ∧ sz S i ≤ 9 := hS _ (getD_mem' (l := S) (k := i) (by omega))

set_option maxRecDepth 100000 in
set_option maxHeartbeats 16000000 in
theorem s_SplitFlow_yes (a : Option Addr) (n c t : Nat) (S : List Int) (w : World) (h : IntsAt w a n S) (hg : goodSizes S = true) (ht : t ≤ 60) :
    Calls Try.prog 51 #[.slice a n c, .int .i64 (t : Int)] w fun e w' => ∃ a' c', e = .returned (.tuple #[.slice a' n c', .bool true]) ∧ OwnI w' w.heap.size (.slice a' n c') (liftN (greedy S t)) ∧ Below w.heap.size w w' := by
  obtain ⟨j0, hj, hy0, hy1, hy2⟩ := info_parts Try.infoInt
  obtain ⟨⟨hn1, hn5⟩, hS⟩ := goodSizes_iff.1 hg
  have hl := h.1
  have H := hid h
  have HG := hid hg
  have HS := hid hS
  have HL := hid hl
  have HJ := hid hj
  have HY := hid hy0
  have HY1 := hid hy1
  have HY2 := hid hy2
  have H60 := hid (show inR (t : Int) 0 60 = true from inR_iff.2 ⟨by omega, by omega⟩)
  rw [hl] at hn1 hn5
  clear h hg hS hl hj hy0 hy1 hy2
  go_enter Try.func51, Try.ntmps51
  go_wp2_with fail
  refine (s_l10Sizes _ _ _ S _ H.out (by omega)).mono ?_
  rintro e _ ⟨rfl, rfl⟩
  rw [HG.out]
  go_wp2_with fail
  refine (s_l1In _ _ _ _).mono ?_
  rintro e _ ⟨rfl, rfl⟩
  rw [H60.out]
  go_wp2_with (at_make; refine wpList_make_full _ rfl _ _ 22 rfl w.heap.size 3 j0 (.int .i64 0) 1 Try.underlying22 HJ.out HY.out HY1.out _ _ _ _ n rfl rfl rfl rfl ?b2 ?b3 ?b4 ?_)
  case b2 => rw [HY2.out]; omega
  case b3 => unfold maxLen; omega
  case b4 => exact Nat.le_refl _
  intro w1 hown hgrow
  have B1 := hid (below_of_grown hgrow (Nat.le_refl _) (fun k hk => by simp at hk) : Below w.heap.size w w1)
  have O1 := hid (show OwnI w1 w.heap.size (.slice (some ⟨w.heap.size, 0, none⟩) n n) (liftN (greedy S 0)) by rw [show liftN (greedy S 0) = List.replicate n 0 by unfold greedy; rw [liftN_zero, HL.out]]; exact OwnI.made hown)
  clear hown hgrow
  obtain ⟨g, hgg⟩ : ∃ g, w.heap.size = g := ⟨_, rfl⟩
  have HGG := hid hgg
  rw [hgg] at O1 ⊢
  clear hgg
  go_wp2
  go_loopg [7] t (fun gm s wr => ∃ k : Nat, k ≤ t ∧ gm = t - k ∧ s = .int .i64 k ∧ Hid (OwnI wr g (.slice (some ⟨g, 0, none⟩) n n) (liftN (greedy S k))) ∧ Hid (Below w.heap.size w wr))
  case atStart => exact ⟨0, Nat.zero_le _, rfl, rfl, O1, B1⟩
  case round =>
    obtain ⟨k, hk, rfl, rfl, hO, hB⟩ := hrel
    clear O1 B1
    by_cases hlt : k < t
    · obtain ⟨G, hG⟩ : ∃ G, greedy S k = G := ⟨_, rfl⟩
      have HGL := hid (show G.length = n by rw [← hG, greedy_len]; exact HL.out)
      have hgs : G.sum = k := by rw [← hG, greedy_sum (by have := HL.out; omega)]
      have HQ := hid (show ∀ i, qt G i < 60 from fun i => by have := qt_le_sum G i; omega)
      have HNX := hid (show greedy S (k + 1) = G.set (bestK S G (n - 1)) (qt G (bestK S G (n - 1)) + 1) by rw [← hG, ← HL.out]; rfl)
      rw [hG] at hO
      clear hG hgs
      obtain ⟨W0, hW0⟩ : ∃ W, W = wr := ⟨_, rfl⟩
      subst hW0
      go_wp2
      go_loopg [8, 9] (n - 1) (fun gm s8 s9 wx => ∃ m : Nat, m + 1 ≤ n ∧ gm = n - 1 - m ∧ s8 = .int .i64 ((bestK S G m : Nat) : Int) ∧ s9 = .int .i64 ((m : Int) + 1) ∧ Hid (Below W0.heap.size W0 wx))
      case atStart => exact ⟨0, by omega, rfl, rfl, rfl, hid (Below.refl _ _)⟩
      case round =>
        obtain ⟨m, hm, rfl, rfl, rfl, hx⟩ := hrel
        have O2 := hid (hO.out.below hx.out)
        have B2 := hid (bstep hB.out hx.out)
        have hbk := bestK_le S G m
        obtain ⟨b, hb⟩ : ∃ b, bestK S G m = b := ⟨_, rfl⟩
        by_cases hmn : m + 1 < n
        · obtain ⟨m1, hm1⟩ : ∃ m1, m + 1 = m1 := ⟨_, rfl⟩
          have em1 : (m : Int) + 1 = (m1 : Int) := by omega
          have hbn : b < n := by omega
          have hm1n : m1 < n := by omega
          obtain ⟨b0, off0, rfl, hbw, hc1⟩ := (H.out.below B2.out).2 m1 hm1n
          obtain ⟨_, _, e2, _, hc2⟩ := (H.out.below B2.out).2 b hbn
          simp only [Option.some.injEq, Addr.mk.injEq, and_true] at e2
          obtain ⟨rfl, rfl⟩ := e2
          have hc3 := O2.out.cell (k := m1) hm1n
          have hc4 := O2.out.cell (k := b) hbn
          rw [liftN_get] at hc3 hc4
          have hs1 := sz_fit' HL.out HS.out hm1n
          have hs2 := sz_fit' HL.out HS.out hbn
          have hq1 := HQ.out m1
          have hq2 := HQ.out b
          have f1 := marg_fit hs1 hq1
          have f2 := marg_fit hs2 hq2
          have HM := hid (show bestK S G m1 = if marg (sz S m1) (qt G m1) < marg (sz S b) (qt G b) then m1 else b by rw [← hm1, ← hb]; rfl)
          have hc1' : wr.cell? ⟨b0, off0 + m1, none⟩ = some (.int .i64 (sz S m1)) := hc1
          have hc2' : wr.cell? ⟨b0, off0 + b, none⟩ = some (.int .i64 (sz S b)) := hc2
          unfold marg at HM
          unfold cube at HM f1 f2
          obtain ⟨x1, hx1⟩ : ∃ v, sz S m1 = v := ⟨_, rfl⟩
          obtain ⟨x2, hx2⟩ : ∃ v, sz S b = v := ⟨_, rfl⟩
          obtain ⟨y1, hy1⟩ : ∃ v, qt G m1 = v := ⟨_, rfl⟩
          obtain ⟨y2, hy2⟩ : ∃ v, qt G b = v := ⟨_, rfl⟩
          rw [hx1] at hc1' f1 HM hs1
          rw [hx2] at hc2' f2 HM hs2
          rw [hy1] at hc3 f1 HM hq1
          rw [hy2] at hc4 f2 HM hq2
          rw [em1, hb]
          have HM1 := hid hm1
          clear hx1 hx2 hy1 hy2 hc1 hc2 hb hbk em1 hm1
          have hw1 : IntKind.i64.wrap ((y1 : Int) + 1) = (y1 : Int) + 1 := IntWalk.i64_in _ (by omega)
          have hw2 : IntKind.i64.wrap ((y2 : Int) + 1) = (y2 : Int) + 1 := IntWalk.i64_in _ (by omega)
          have hw3 := IntWalk.i64_in (x1 * ((y1 : Int) + 1) * ((y1 : Int) + 1) * ((y1 : Int) + 1) - x1 * y1 * y1 * y1) (by omega)
          have hw4 := IntWalk.i64_in (x2 * ((y2 : Int) + 1) * ((y2 : Int) + 1) * ((y2 : Int) + 1) - x2 * y2 * y2 * y2) (by omega)
          by_cases hcond : x1 * ((y1 : Int) + 1) * ((y1 : Int) + 1) * ((y1 : Int) + 1) - x1 * y1 * y1 * y1 < x2 * ((y2 : Int) + 1) * ((y2 : Int) + 1) * ((y2 : Int) + 1) - x2 * y2 * y2 * y2
          · rw [if_pos hcond] at HM
            go_upto_region 11 with fail
            go_quiet (first | (go_at_call 96; exact quiet_eq (s_l10Cube _ _ _ (by omega) (by omega))))
            go_wp2
            go_roundg (n - 1 - m1)
            case rel => exact ⟨m1, by omega, rfl, by rw [HM.out], by go_num, hid (below_drewN hx.out _)⟩
            case measure => have := HM1.out; omega
          · rw [if_neg hcond] at HM
            go_upto_region 11 with fail
            go_quiet (first | (go_at_call 96; exact quiet_eq (s_l10Cube _ _ _ (by omega) (by omega))))
            go_wp2
            go_roundg (n - 1 - m1)
            case rel => exact ⟨m1, by omega, rfl, by rw [HM.out], by go_num, hid (below_drewN hx.out _)⟩
            case measure => have := HM1.out; omega
        · have hmn2 : ¬ (m : Int) + 1 < (n : Int) := by omega
          obtain rfl : m = n - 1 := by omega
          have hbn : b < n := by omega
          have hc4 := O2.out.cell (k := b) hbn
          rw [liftN_get] at hc4
          have hf4 := O2.out.frozen (k := b)
          have hq2 := HQ.out b
          have SS := hid (O2.out.set (k := b) ((qt G b : Int) + 1))
          have HE := hid (show liftN (greedy S (k + 1)) = (liftN G).set b ((qt G b : Int) + 1) by rw [HNX.out, hb, liftN_set]; rfl)
          have hw2 : IntKind.i64.wrap ((qt G b : Int) + 1) = (qt G b : Int) + 1 := IntWalk.i64_in _ (by omega)
          rw [hb]
          clear hb hbk
          go_wp2
          go_roundg (t - (k + 1))
          case rel => exact ⟨k + 1, by omega, rfl, by go_num, hid (by rw [HE.out]; exact SS.out.1), hid (B2.out.grown SS.out.2 B2.out.size (fun q e => by have := HGG.out; simp only [Option.some.injEq] at e; omega))⟩
          case measure => omega
    · obtain rfl : t = k := by omega
      go_wp2
      go_ret2
      exact ⟨_, _, rfl, by rw [HGG.out]; exact hO.out, hB.out⟩

end Go.Proofs.Ytpmffboojkfpdaa

/-
  SplitFlow, in the program and in the reference, for all arguments.
-/
set_option linter.unusedVariables false
set_option linter.unusedSimpArgs false
namespace Go.Proofs.Ytpmffboojkfpdaa
open Go.RowKit

/-- What SplitFlow returns. -/
def splitR (S : List Int) (t : Int) : List Int × Bool := if (goodSizes S && inR t 0 60) = true then (liftN (greedy S t.toNat), true) else ([], false)
theorem splitR_len {S R : List Int} {t : Int} {b : Bool} (h : splitR S t = (R, b)) : R.length ≤ 1000 := by
  unfold splitR at h
  split at h
  · rename_i hv
    simp only [Bool.and_eq_true] at hv
    simp only [Prod.mk.injEq] at h
    obtain ⟨rfl, rfl⟩ := h
    rw [liftN_len, greedy_len]
    have := (goodSizes_iff.1 hv.1).1
    omega
  · simp only [Prod.mk.injEq] at h
    obtain ⟨rfl, rfl⟩ := h
    simp

set_option maxHeartbeats 2000000 in
theorem i_SplitFlow (a : Option Addr) (n c : Nat) (t : Int) (S : List Int) (w : World) (h : IntsAt w a n S) (hn : n ≤ 1048576) (R : List Int) (b : Bool) (hR : splitR S t = (R, b)) :
    Calls Try.prog 52 #[.slice a n c, .int .i64 t] w fun e w' => ∃ a' c', e = .returned (.tuple #[.slice a' R.length c', .bool b]) ∧ OwnI w' w.heap.size (.slice a' R.length c') R ∧ Below w.heap.size w w' := by
  have hl := h.1
  cases h1 : goodSizes S
  · have e : splitR S t = ([], false) := by unfold splitR; simp [h1]
    rw [e] at hR
    simp only [Prod.mk.injEq] at hR
    obtain ⟨rfl, rfl⟩ := hR
    have H1 := hid h1
    have H := hid h
    clear h1 h hl e
    go_enter Try.func52, Try.ntmps52
    go_wp2_with fail
    refine (i_areSizes _ _ _ S _ H.out (by omega)).mono ?_
    rintro e w1 ⟨rfl, hb1⟩
    rw [H1.out]
    go_wp2
    go_ret2
    exact ⟨_, _, rfl, OwnI.nil _ _, hb1⟩
  · cases h2 : inR t 0 60
    · have e : splitR S t = ([], false) := by unfold splitR; simp [h2]
      rw [e] at hR
      simp only [Prod.mk.injEq] at hR
      obtain ⟨rfl, rfl⟩ := hR
      have H1 := hid h1
      have H2 := hid h2
      have H := hid h
      clear h1 h2 h hl e
      go_enter Try.func52, Try.ntmps52
      go_wp2_with fail
      refine (i_areSizes _ _ _ S _ H.out (by omega)).mono ?_
      rintro e w1 ⟨rfl, hb1⟩
      rw [H1.out]
      go_wp2_with fail
      refine (i_inside _ _ _ _).mono ?_
      rintro e _ ⟨rfl, rfl⟩
      rw [H2.out]
      go_wp2
      go_ret2
      exact ⟨_, _, rfl, OwnI.nil _ _, hb1⟩
    · have ht := inR_iff.1 h2
      obtain ⟨k, rfl⟩ : ∃ k : Nat, t = (k : Int) := ⟨t.toNat, by omega⟩
      have e : splitR S (k : Int) = (liftN (greedy S k), true) := by unfold splitR; rw [if_pos (by simp [h1, h2])]; simp
      rw [e] at hR
      simp only [Prod.mk.injEq] at hR
      obtain ⟨rfl, rfl⟩ := hR
      have e2 : (liftN (greedy S k)).length = n := by rw [liftN_len, greedy_len]; exact hl
      rw [e2]
      exact i_SplitFlow_yes a n c k S w h h1 (by omega)

set_option maxHeartbeats 2000000 in
theorem s_SplitFlow (a : Option Addr) (n c : Nat) (t : Int) (S : List Int) (w : World) (h : IntsAt w a n S) (hn : n ≤ 1048576) (R : List Int) (b : Bool) (hR : splitR S t = (R, b)) :
    Calls Try.prog 51 #[.slice a n c, .int .i64 t] w fun e w' => ∃ a' c', e = .returned (.tuple #[.slice a' R.length c', .bool b]) ∧ OwnI w' w.heap.size (.slice a' R.length c') R ∧ Below w.heap.size w w' := by
  have hl := h.1
  cases h1 : goodSizes S
  · have e : splitR S t = ([], false) := by unfold splitR; simp [h1]
    rw [e] at hR
    simp only [Prod.mk.injEq] at hR
    obtain ⟨rfl, rfl⟩ := hR
    have H1 := hid h1
    have H := hid h
    clear h1 h hl e
    go_enter Try.func51, Try.ntmps51
    go_wp2_with fail
    refine (s_l10Sizes _ _ _ S _ H.out (by omega)).mono ?_
    rintro e _ ⟨rfl, rfl⟩
    rw [H1.out]
    go_wp2
    go_ret2
    exact ⟨_, _, rfl, OwnI.lit0 _, by go_grown⟩
  · cases h2 : inR t 0 60
    · have e : splitR S t = ([], false) := by unfold splitR; simp [h2]
      rw [e] at hR
      simp only [Prod.mk.injEq] at hR
      obtain ⟨rfl, rfl⟩ := hR
      have H1 := hid h1
      have H2 := hid h2
      have H := hid h
      clear h1 h2 h hl e
      go_enter Try.func51, Try.ntmps51
      go_wp2_with fail
      refine (s_l10Sizes _ _ _ S _ H.out (by omega)).mono ?_
      rintro e _ ⟨rfl, rfl⟩
      rw [H1.out]
      go_wp2_with fail
      refine (s_l1In _ _ _ _).mono ?_
      rintro e _ ⟨rfl, rfl⟩
      rw [H2.out]
      go_wp2
      go_ret2
      exact ⟨_, _, rfl, OwnI.lit0 _, by go_grown⟩
    · have ht := inR_iff.1 h2
      obtain ⟨k, rfl⟩ : ∃ k : Nat, t = (k : Int) := ⟨t.toNat, by omega⟩
      have e : splitR S (k : Int) = (liftN (greedy S k), true) := by unfold splitR; rw [if_pos (by simp [h1, h2])]; simp
      rw [e] at hR
      simp only [Prod.mk.injEq] at hR
      obtain ⟨rfl, rfl⟩ := hR
      have e2 : (liftN (greedy S k)).length = n := by rw [liftN_len, greedy_len]; exact hl
      rw [e2]
      exact s_SplitFlow_yes a n c k S w h h1 (by omega)

end Go.Proofs.Ytpmffboojkfpdaa

/-
  The parts of a split flow, and the exchange of a unit (plain).
-/
set_option linter.unusedVariables false
set_option linter.unusedSimpArgs false
namespace Go.Proofs.Ytpmffboojkfpdaa
open Go.RowKit

theorem cubes_cons (s : Int) (S : List Int) (q : Nat) (P : List Nat) : ∀ k, cubes (s :: S) (liftN (q :: P)) (k + 1) = cube s q + cubes S (liftN P) k
  | 0 => by simp [cubes, liftN, cube]
  | k + 1 => by
    rw [cubes_succ (s :: S), cubes_cons s S q P k, cubes_succ S]
    have e1 : (s :: S)[k + 1]?.getD 0 = S[k]?.getD 0 := by simp
    have e2 : (liftN (q :: P))[k + 1]?.getD 0 = (liftN P)[k]?.getD 0 := by simp [liftN]
    rw [e1, e2]
    omega
theorem cubes_costs : ∀ (S : List Int) (P : List Nat), P.length = S.length → cubes S (liftN P) S.length = costs S P
  | [], P, h => by
    obtain rfl : P = [] := List.eq_nil_of_length_eq_zero h
    simp [cubes, costs]
  | s :: S, [], h => by simp at h
  | s :: S, q :: P, h => by
    rw [List.length_cons, cubes_cons, cubes_costs S P (by simpa using h), costs]
theorem liftN_sum : ∀ G : List Nat, (liftN G).sum = ((G.sum : Nat) : Int)
  | [] => by simp [liftN]
  | g :: G => by
    have := liftN_sum G
    unfold liftN at *
    simp only [List.map_cons, List.sum_cons, this]
    omega
theorem splitE_lift {S : List Int} {P : List Nat} (hg : goodSizes S = true) (hl : P.length = S.length) (h60 : ∀ q ∈ P, q ≤ 60) : splitE S (liftN P) = (costs S P, true) := by
  unfold splitE
  rw [if_pos ⟨hg, by rw [liftN_len]; exact hl, any_inS.2 (fun x hx => by
    unfold liftN at hx
    obtain ⟨q, hq, rfl⟩ := List.mem_map.1 hx
    have := h60 q hq
    omega)⟩, liftN_len, hl, cubes_costs S P hl]
theorem set_sum : ∀ (G : List Nat) (b v : Nat), b < G.length → (G.set b v).sum + qt G b = G.sum + v
  | [], b, v, h => by simp at h
  | g :: G, 0, v, h => by simp [qt]; omega
  | g :: G, b + 1, v, h => by
    have := set_sum G b v (by simpa using h)
    have e : qt (g :: G) (b + 1) = qt G b := by simp [qt]
    rw [e]
    simp only [List.set_cons_succ, List.sum_cons]
    omega
theorem qt_set (G : List Nat) (b i v : Nat) (hb : b < G.length) : qt (G.set b v) i = if i = b then v else qt G i := by
  unfold qt
  rw [List.getElem?_set]
  by_cases e : b = i
  · subst e; simp [hb]
  · rw [if_neg e, if_neg (fun h => e h.symm)]
theorem mem_set {G : List Nat} {b v q B : Nat} (h : ∀ q ∈ G, q ≤ B) (hv : v ≤ B) (hq : q ∈ G.set b v) : q ≤ B := by
  rcases List.mem_or_eq_of_mem_set hq with h1 | h1
  · exact h q h1
  · omega
/-- What is known of a split flow. -/
theorem split_yes {S R : List Int} {t : Int} (h : splitR S t = (R, true)) : goodSizes S = true ∧ (0 ≤ t ∧ t ≤ 60) ∧ ∃ G : List Nat, R = liftN G ∧ G.length = S.length ∧ (∀ q ∈ G, q ≤ 60) ∧ R.sum = t ∧ splitE S R = (costs S G, true) ∧ (0 ≤ costs S G ∧ costs S G ≤ 9720000) ∧
    ∀ i k, i < S.length → k < S.length → i ≠ k → qt G i ≠ 0 → qt G k ≠ 60 → ∃ E : Int, splitE S ((R.set i ((qt G i : Int) - 1)).set k ((qt G k : Int) + 1)) = (E, true) ∧ costs S G ≤ E := by
  unfold splitR at h
  split at h
  · rename_i hv
    simp only [Bool.and_eq_true] at hv
    obtain ⟨hg, ht⟩ := hv
    have ht := inR_iff.1 ht
    obtain ⟨⟨hn1, hn5⟩, hS⟩ := goodSizes_iff.1 hg
    simp only [Prod.mk.injEq, and_true] at h
    have hs1 : ∀ s ∈ S, 1 ≤ s := fun s hs => (hS s hs).1
    have hsum := greedy_sum (S := S) (by omega) t.toNat
    have hlen := greedy_len S t.toNat
    have hG := greedy_is (S := S) (by omega) hs1 t.toNat
    generalize greedy S t.toNat = G at *
    have h60 : ∀ q ∈ G, q ≤ 60 := fun q hq => by have := mem_le_sum hq; omega
    have hc := costs_small S G hS h60
    refine ⟨hg, ht, G, h.symm, hlen, h60, by rw [← h, liftN_sum, hsum]; omega, by rw [← h]; exact splitE_lift hg hlen h60, ⟨hc.1, by have := hc.2; omega⟩, fun i k hi hk hik h0 h6 => ?_⟩
    have hP : ((liftN G).set i ((qt G i : Int) - 1)).set k ((qt G k : Int) + 1) = liftN ((G.set i (qt G i - 1)).set k (qt G k + 1)) := by
      rw [liftN_set, liftN_set]
      congr 1
      congr 1
      omega
    have hk60 : qt G k ≤ 60 := by
      have := qt_le_sum G k
      omega
    rw [← h, hP]
    have hl2 : ((G.set i (qt G i - 1)).set k (qt G k + 1)).length = S.length := by rw [List.length_set, List.length_set]; exact hlen
    have hi60 : qt G i - 1 ≤ 60 := by have := qt_le_sum G i; omega
    refine ⟨_, splitE_lift hg hl2 (fun q hq => mem_set (fun q hq => mem_set h60 hi60 hq) (by omega) hq), (greedy_best hG hlen hl2 hs1 ?_).1⟩
    have e1 := set_sum G i (qt G i - 1) (by omega)
    have e2 := set_sum (G.set i (qt G i - 1)) k (qt G k + 1) (by rw [List.length_set]; omega)
    rw [qt_set _ _ _ _ (by omega), if_neg (fun e => hik e.symm)] at e2
    omega
  · simp at h

end Go.Proofs.Ytpmffboojkfpdaa

/-
  Steps of a drawn region, operation by operation.
-/
set_option linter.unusedVariables false
set_option linter.unusedSimpArgs false
namespace Go.Proofs.Ytpmffboojkfpdaa
open Go.RowKit

theorem drop_get {α : Type} {l : Array α} {i : Nat} {x : α} {r : List α} (h : l.toList.drop i = x :: r) : l[i]? = some x := by
  have e : (l.toList.drop i)[0]? = some x := by rw [h]; rfl
  rw [List.getElem?_drop] at e
  simpa using e
theorem wpAnyH_take' {P : Program} {md : Region.Mode} {ops : Array Oper} {Q : Exit → Act → World → Prop} {S : World → Prop} {i : Nat} {oi : Oper} {rest : List Oper} {v : Value} {fuel : Nat} {listed : Array Bool} {a : Act} {w : World} (hi : ops.toList.drop i = oi :: rest)
    (hs : Region.noSelect ops = true) (hf : Region.free md ops listed i = true) (hr : (Region.ready md ops listed).contains i = true)
    (hQ : ∀ c a w, Q (.panic c) (a.put oi.dst v) w → Q (.panic c) a w) (hy : YieldsIf P ops S oi v a) (hS : S w)
    (h : wpAnyH P md ops Q S fuel (listed.setIfInBounds i true) (a.put oi.dst v) w) : wpAnyH P md ops Q S (fuel + 1) listed a w :=
  wpAnyH_take (drop_get hi) hs hf hr hQ hy hS h
theorem allReadyH_cons' {P : Program} {md : Region.Mode} {ops : Array Oper} {Q : Exit → Act → World → Prop} {S : World → Prop} {fuel : Nat} {listed : Array Bool} {a : Act} {w : World} {i : Nat} {o : Oper} {rest : List Oper} {rs : List Nat} (ho : ops.toList.drop i = o :: rest)
    (h : ∀ K' : Act → World → Prop, Shut (∀ a w, S w → (S w → wpAnyH P md ops Q S fuel (listed.setIfInBounds i true) a w) → K' a w) → if Region.wanted o (yielded ops a.tmps) = true then Oper.wp P o a w K' Q else K' (a.put o.dst undef) w)
    (hs : AllReadyH P md ops Q S fuel listed a w rs) : AllReadyH P md ops Q S fuel listed a w (i :: rs) := AllReadyH.cons (drop_get ho) h hs

end Go.Proofs.Ytpmffboojkfpdaa

/-
  A region in any order whose last operation stores what the others have read: the condition on the world need not hold behind that one.
-/
set_option linter.unusedVariables false
set_option linter.unusedSimpArgs false
namespace Go.Proofs.Ytpmffboojkfpdaa
open Go.RowKit

section
variable {P : Program} {md : Region.Mode} {ops : Array Oper} {Q : Exit → Act → World → Prop} {S : World → Prop} {z : Nat}

/-- Any order from here on; S is asked behind each operation but z. -/
def AnyTo (P : Program) (md : Region.Mode) (ops : Array Oper) (Q : Exit → Act → World → Prop) (S : World → Prop) (z : Nat) : Nat → Array Bool → Act → World → Prop
  | 0, done, a, w => Region.ready md ops done = [] ∧ Q .normal a w
  | n + 1, done, a, w => (Region.ready md ops done = [] → Q .normal a w) ∧
      ∀ i ∈ Region.ready md ops done, wpOp P ops Q i (fun b v => (i ≠ z → S v) ∧ AnyTo P md ops Q S z n (done.setIfInBounds i true) b v) a w
theorem AnyTo.any : ∀ (n : Nat) (done : Array Bool) (a : Act) (w : World), AnyTo P md ops Q S z n done a w → wpAny P md ops Q n done a w
  | 0, _, _, _, h => h
  | n + 1, _, _, _, h => ⟨h.1, fun i hi => wpOp_mono (fun b v hv => AnyTo.any n _ b v hv.2) (h.2 i hi)⟩
/-- Operation z waits for operation i. -/
def waitsFor (md : Region.Mode) (ops : Array Oper) (z i : Nat) : Bool :=
  match ops[z]? with
  | some o => o.after.any fun e => Region.binds md e && e.on == i
  | none => false
theorem not_ready {i : Nat} {done : Array Bool} (hw : waitsFor md ops z i = true) (hi : done.getD i true = false) : z ∉ Region.ready md ops done := by
  intro hz
  obtain ⟨-, o, ho, hall⟩ := mem_ready.1 hz
  unfold waitsFor at hw
  rw [ho] at hw
  simp only [Array.any_eq_true] at hw
  obtain ⟨k, hk, hb⟩ := hw
  rw [Bool.and_eq_true, beq_iff_eq] at hb
  have h1 := hall _ (Array.getElem_mem hk) hb.1
  rw [hb.2] at h1
  by_cases hlt : i < done.size
  · simp [hlt] at hi h1
    rw [hi] at h1
    cases h1
  · simp [Array.getElem?_eq_none (by omega : done.size ≤ i)] at h1
theorem AnyTo.first {i : Nat} {oi : Oper} {v : Value} (hi : ops[i]? = some oi) (hs : Region.noSelect ops = true) (hw : waitsFor md ops z i = true)
    (hQ : ∀ c a w, Q (.panic c) (a.put oi.dst v) w → Q (.panic c) a w) : ∀ (n : Nat) (done : Array Bool) (a : Act) (w : World),
      (∀ j oj, ops[j]? = some oj → j ≠ i → done.getD j true = false → (∀ e ∈ oj.after, Region.binds md e = true → e.on ≠ i) → oi.apart ops oj = true) →
      i ∈ Region.ready md ops done → YieldsIf P ops S oi v a → S w →
      AnyTo P md ops Q S z n (done.setIfInBounds i true) (a.put oi.dst v) w → AnyTo P md ops Q S z (n + 1) done a w
  | 0, done, a, w, _, hr, hy, hS, H => by
    refine ⟨fun h => (by rw [h] at hr; cases hr), fun j hj => ?_⟩
    by_cases e : j = i
    · subst e; exact hy.wpOp hi hS ⟨fun _ => hS, H⟩
    · have h1 := ready_mono hj e
      rw [H.1] at h1
      cases h1
  | n + 1, done, a, w, hfree, hr, hy, hS, H => by
    refine ⟨fun h => (by rw [h] at hr; cases hr), fun j hj => ?_⟩
    by_cases e : j = i
    · subst e; exact hy.wpOp hi hS ⟨fun _ => hS, H⟩
    · have hun := (mem_ready.1 hr).1
      have hjz : j ≠ z := fun e2 => by subst e2; exact not_ready hw hun hj
      have h1 := H.2 j (ready_mono hj e)
      obtain ⟨hju, oj, hoj, hall⟩ := mem_ready.1 hj
      have hno : ∀ e ∈ oj.after, Region.binds md e = true → e.on ≠ i := fun e he hb e2 => by
        have h2 := hall e he hb
        rw [e2] at h2
        by_cases hlt : i < done.size
        · simp [hlt] at hun h2
          rw [hun] at h2
          cases h2
        · simp [Array.getElem?_eq_none (by omega : done.size ≤ i)] at h2
      have h2 := wpOp_putIf hoj (hfree j oj hoj e hju hno) (fun cs b => Region.noSelect_spec hs i oi cs b hi) (fun cs b => Region.noSelect_spec hs j oj cs b hoj) hQ hy h1
      refine wpOp_mono (fun b u h3 => ⟨h3.2.1, AnyTo.first hi hs hw hQ n (done.setIfInBounds j true) b u (fun k ok hk hki hku hkn => hfree k ok hk hki (by
        by_cases ejk : j = k
        · subst ejk; exact hju
        · rw [getD_set_ne true ejk] at hku; exact hku) hkn) (ready_mono hr (Ne.symm e)) h3.1 (h3.2.1 hjz) (by rw [Array.setIfInBounds_comm _ _ e]; exact h3.2.2)⟩) h2
/-- What yields its value in every world that meets S is taken first. -/
theorem AnyTo.take {i : Nat} {oi : Oper} {rest : List Oper} {v : Value} {n : Nat} {done : Array Bool} {a : Act} {w : World} (hi : ops.toList.drop i = oi :: rest)
    (hs : Region.noSelect ops = true) (hf : Region.free md ops done i = true) (hr : (Region.ready md ops done).contains i = true) (hw : waitsFor md ops z i = true)
    (hQ : ∀ c a w, Q (.panic c) (a.put oi.dst v) w → Q (.panic c) a w) (hy : YieldsIf P ops S oi v a) (hS : S w)
    (h : AnyTo P md ops Q S z n (done.setIfInBounds i true) (a.put oi.dst v) w) : AnyTo P md ops Q S z (n + 1) done a w :=
  AnyTo.first (drop_get hi) hs hw hQ n done a w (Region.free_spec (drop_get hi) hf) (by simpa using hr) hy hS h
/-- One operation alone may come up. -/
theorem AnyTo.one {i : Nat} {o : Oper} {rest : List Oper} {n : Nat} {done : Array Bool} {a : Act} {w : World} (ho : ops.toList.drop i = o :: rest) (hr : Region.ready md ops done = [i])
    (h : ∀ K : Act → World → Prop, Shut (∀ b v, S v → (S v → AnyTo P md ops Q S z n (done.setIfInBounds i true) b v) → K b v) → if Region.wanted o (yielded ops a.tmps) = true then Oper.wp P o a w K Q else K (a.put o.dst undef) w) : AnyTo P md ops Q S z (n + 1) done a w := by
  refine ⟨fun h0 => (by rw [hr] at h0; cases h0), fun j hj => ?_⟩
  rw [hr] at hj
  obtain rfl := List.mem_singleton.1 hj
  exact wpOp_step (drop_get ho) (fun K hK => h K (fun b v hS hv => hK b v ⟨fun _ => hS, hv hS⟩))
/-- The last operation. -/
theorem AnyTo.last {o : Oper} {rest : List Oper} {n : Nat} {done : Array Bool} {a : Act} {w : World} (ho : ops.toList.drop z = o :: rest) (hr : Region.ready md ops done = [z])
    (hd : Region.ready md ops (done.setIfInBounds z true) = [])
    (h : ∀ K : Act → World → Prop, Shut (∀ b v, Q .normal b v → K b v) → if Region.wanted o (yielded ops a.tmps) = true then Oper.wp P o a w K Q else K (a.put o.dst undef) w) : AnyTo P md ops Q S z (n + 1) done a w := by
  refine ⟨fun h0 => (by rw [hr] at h0; cases h0), fun j hj => ?_⟩
  rw [hr] at hj
  obtain rfl := List.mem_singleton.1 hj
  refine wpOp_step (drop_get ho) (fun K hK => h K (fun b v hv => hK b v ⟨fun h => absurd rfl h, ?_⟩))
  cases n with
  | zero => exact ⟨hd, hv⟩
  | succ n => exact ⟨fun _ => hv, by rw [hd]; intro i hi; cases hi⟩
theorem wp_region_to {id : Nat} {a : Act} {w : World} (S : World → Prop) (z : Nat) (hm : P.follows .mixedOrders = true) (hS : S w.drew)
    (h : S w.drew → AnyTo P .any ops Q S z ops.size (Array.replicate ops.size false) a w.drew) : (Code.region id ops true).wp P Q a w :=
  wp_region_any hm (AnyTo.any _ _ _ _ (h hS))
end

end Go.Proofs.Ytpmffboojkfpdaa

/-
  From a walk to a law's row: every argument reads as it did, because nothing that was there has turned.
-/
set_option linter.unusedVariables false
set_option linter.unusedSimpArgs false
namespace Go.Proofs.Ytpmffboojkfpdaa
open Go.ChangeShapes Go.WideShapes Go.ChangeAt Go.RowKit Go.Joins

theorem Try.own : ownKnob Try.prog.godebug = none := by kernel_rfl
theorem Try.laidOut : laidOutB Try.prog = true := by kernel_rfl

theorem Try.cellsInt : Try.prog.cellsOf 3 = 1 := by kernel_rfl

theorem trodAll_below {H : Type} {enc : TypeId × Value → H} {W W' : World} (hb : Below W.heap.size W W') : ∀ (ts : List TypeId) (vs : List Value) (ds : List (DataW H)) (ps : List MemPlace),
    (∀ t ∈ ts, Try.prog.readableRec t = true ∧ t < Try.prog.types.size) → DataW.TrodAll enc Try.prog W 0 (fun _ => true) true ts vs ds ps → (∀ x ∈ ps, x.block < W.heap.size) →
    DataW.TrodAll enc Try.prog W' 0 (fun b => decide (b < W.heap.size)) true ts vs ds ps
  | [], vs, ds, ps, _, h, _ => by
    obtain ⟨rfl, rfl, rfl⟩ := trodAll_nil h
    exact trodAll_mk0
  | t :: ts, vs, ds, ps, hg, h, hl => by
    obtain ⟨v, vs', d, ds', p, q, rfl, rfl, rfl, h1, h2⟩ := trodAll_cons h
    have hg1 := hg t (by simp)
    exact trodAll_cons_mk (Below.trod Try.laidOut hg1.1 hg1.2 h1 hb (fun x hx => hl x (by simp [hx]))) (trodAll_below hb ts vs' ds' q (fun t ht => hg t (by simp [ht])) h2 (fun x hx => hl x (by simp [hx])))

set_option maxRecDepth 100000 in
theorem law_post {H : Type} {enc : TypeId × Value → H} {f : Func} {s : ChangeSpec} (hvars : s.vars = []) (hres : f.resultTypes = #[4]) (hgood : (f.params.toList.all fun t => Try.prog.readableRec t && decide (t < Try.prog.types.size)) = true)
    {W W' : World} {args : Array Value} {ds gs : List (DataW H)} {before : List MemPlace} (hW : DataW.Whole enc Try.prog f.params.toList s.vars false W args.toList ds gs before)
    (h1 : (s.fn H (ds ++ gs)).results = [.lit (.bool true)]) (h2 : (s.fn H (ds ++ gs)).args = ds) (h3 : (s.fn H (ds ++ gs)).vars = []) (hb : Below W.heap.size W W') :
    s.post enc Try.prog f false true false false W args (.bool true) W' := by
  have hW' := hW
  obtain ⟨p, q, hA, hV, rfl, hfz, hnd⟩ := hW
  have hlt : ∀ x ∈ p, x.block < W.heap.size := fun x hx => hW'.lt x (by simp [hx])
  refine ⟨ds, gs, p ++ q, [], p, [], hW', ?_, ?_, ?_, hb.frame _, fun h => by cases h⟩
  · rw [h1, hres]
    exact trodAll_mk1 (shut_bool Try.underlying4 true)
  · rw [h2]
    exact trodAll_below hb _ _ _ _ (fun t ht => by have := List.all_eq_true.1 hgood t ht; simpa using this) hA hlt
  · rw [h3, hvars]; rfl

set_option maxRecDepth 100000 in
theorem open_ints_at {H : Type} {enc : TypeId × Value → H} {W : World} {base : Nat} {v : Value} {d : DataW H} {p : List MemPlace}
    (hv : Value.okWide Try.prog W .any base 22 v) (h : DataW.Trod enc Try.prog W 0 (fun _ => true) true 22 v d p) :
    ∃ a n c l, v = .slice a n c ∧ IntsAt W a n l ∧ ∀ x ∈ l, -9223372036854775808 ≤ x ∧ x ≤ 9223372036854775807 := by
  obtain ⟨a0, len, cap, rfl⟩ := okWide_slice Try.underlying22 hv
  obtain ⟨fuel, hf⟩ := h
  rcases open_ints Try.underlying22 Try.underlying3 Try.cellsInt hf with ⟨hcs, hx⟩ | ⟨a, len', cap', zs, hcs, _, hl, hm, hz, hx, hcell, hwz⟩
  · simp [Value.cells] at hcs
    obtain ⟨rfl, rfl, rfl⟩ := hcs
    exact ⟨_, _, _, [], rfl, IntsAt.nil _ _, fun x hx => by cases hx⟩
  · simp [Value.cells] at hcs
    obtain ⟨rfl, rfl, rfl⟩ := hcs
    simp at hz
    refine ⟨_, _, _, zs.take len, rfl, ⟨by rw [List.length_take]; omega, ?_⟩, ?_⟩
    · intro k hk
      have h0 := hcell 0 (by omega)
      have hb := World.block_lt_of_cell? W _ (hcell 0 (by omega))
      have hsp : a.spot = none := by
        simp only [Addr.add, if_pos] at h0
        unfold World.cell? at h0
        split at h0
        · split at h0
          · cases h0
          · rename_i hs
            cases hq : a.spot with
            | none => rfl
            | some _ => rw [hq] at hs; exact absurd rfl hs
        · cases h0
      obtain ⟨b, off, sp⟩ := a
      simp only at hsp
      subst hsp
      refine ⟨b, off, rfl, by simpa [addr_add] using hb, ?_⟩
      have hk' := hcell k (by omega)
      rw [addr_add] at hk'
      rw [hk', List.getElem?_take, if_pos hk]
      rfl
    · intro x hx
      have := hwz x (List.mem_of_mem_take hx)
      simpa [Lit.wf, IntKind.min, IntKind.max, IntKind.signed, IntKind.bits] using this

end Go.Proofs.Ytpmffboojkfpdaa

/-
  A code of bytes as an argument.
-/
set_option linter.unusedVariables false
set_option linter.unusedSimpArgs false
namespace Go.Proofs.Ytpmffboojkfpdaa
open Go.ChangeShapes Go.WideShapes Go.ChangeAt Go.RowKit Go.Joins

theorem Try.cellsByte : Try.prog.cellsOf 5 = 1 := by kernel_rfl

set_option maxRecDepth 100000 in
theorem open_bytes {H : Type} {enc : TypeId × Value → H} {W : World} {base : Nat} {v : Value} {d : DataW H} {p : List MemPlace}
    (hv : Value.okWide Try.prog W .any base 39 v) (h : DataW.Trod enc Try.prog W 0 (fun _ => true) true 39 v d p) :
    ∃ a n c, v = .slice a n c ∧ BytesAt W a n := by
  obtain ⟨a0, len, cap, rfl⟩ := okWide_slice Try.underlying39 hv
  obtain ⟨fuel, hf⟩ := h
  rcases open_ints Try.underlying39 Try.underlying5 Try.cellsByte hf with ⟨hcs, hx⟩ | ⟨a, len', cap', zs, hcs, _, hl, hm, hz, hx, hcell, hwz⟩
  · simp [Value.cells] at hcs
    obtain ⟨rfl, rfl, rfl⟩ := hcs
    exact ⟨_, _, _, rfl, by omega, fun i hi => by omega⟩
  · simp [Value.cells] at hcs
    obtain ⟨rfl, rfl, rfl⟩ := hcs
    simp at hz
    refine ⟨_, _, _, rfl, by have := hm; unfold maxLen at *; omega, ?_⟩
    intro k hk
    have h0 := hcell 0 (by omega)
    have hb := World.block_lt_of_cell? W _ (hcell 0 (by omega))
    have hsp : a.spot = none := by
      simp only [Addr.add, if_pos] at h0
      unfold World.cell? at h0
      split at h0
      · split at h0
        · cases h0
        · rename_i hs
          cases hq : a.spot with
          | none => rfl
          | some _ => rw [hq] at hs; exact absurd rfl hs
      · cases h0
    obtain ⟨b, off, sp⟩ := a
    simp only at hsp
    subst hsp
    have hk' := hcell k (by omega)
    rw [addr_add] at hk'
    have hw := hwz _ (getD_mem zs k (by omega))
    have hw2 : 0 ≤ zs[k]?.getD 0 ∧ zs[k]?.getD 0 < 256 := by
      have : 0 ≤ zs[k]?.getD 0 ∧ zs[k]?.getD 0 ≤ 255 := by simpa [Lit.wf, IntKind.min, IntKind.max, IntKind.signed, IntKind.bits] using hw
      omega
    exact ⟨b, off, _, rfl, by simpa [addr_add] using hb, hk', hw2.1, hw2.2⟩

end Go.Proofs.Ytpmffboojkfpdaa

