/-
  SplitFlow in the program: the table of least sums, and the parts read off it.
-/
import Derived.Test.YtpmffboojkfpdaaSplitT
import Derived.StillTailTactics
set_option linter.unusedVariables false
set_option linter.unusedSimpArgs false
namespace Go.Proofs.Ytpmffboojkfpdaa
open Go.RowKit

theorem sz_fit {S : List Int} {n : Nat} (hl : S.length = n) (hS : ∀ x ∈ S, 1 ≤ x ∧ x ≤ 9) {i : Nat} (hi : i < n) : 1 ≤ sz S i ∧ sz S i ≤ 9 := hS _ (getD_mem' (l := S) (k := i) (by omega))

set_option maxRecDepth 100000 in
set_option maxHeartbeats 16000000 in
theorem i_SplitFlow_yes (a : Option Addr) (n c t : Nat) (S : List Int) (w : World) (h : IntsAt w a n S) (hg : goodSizes S = true) (ht : t ≤ 60) :
    Calls Try.prog 52 #[.slice a n c, .int .i64 (t : Int)] w fun e w' => ∃ a' c', e = .returned (.tuple #[.slice a' n c', .bool true]) ∧ OwnI w' w.heap.size (.slice a' n c') (liftN (greedy S t)) ∧ Below w.heap.size w w' := by
  obtain ⟨i0, hi, hz0, hz1, hz2⟩ := info_parts Try.infoInts
  obtain ⟨j0, hj, hy0, hy1, hy2⟩ := info_parts Try.infoInt
  obtain ⟨⟨hn1, hn5⟩, hS⟩ := goodSizes_iff.1 hg
  have hl := h.1
  have H := hid h
  have HG := hid hg
  have HS := hid hS
  have HL := hid hl
  have HI := hid hi
  have HZ := hid hz0
  have HZ1 := hid hz1
  have HZ2 := hid hz2
  have HJ := hid hj
  have HY := hid hy0
  have HY1 := hid hy1
  have HY2 := hid hy2
  have H60 := hid (show inR (t : Int) 0 60 = true from inR_iff.2 ⟨by omega, by omega⟩)
  rw [hl] at hn1 hn5
  clear h hg hS hl hi hz0 hz1 hz2 hj hy0 hy1 hy2
  obtain ⟨N, hN⟩ : ∃ N, n + 1 = N := ⟨_, rfl⟩
  obtain ⟨T, hT⟩ : ∃ T, t + 1 = T := ⟨_, rfl⟩
  have hwN : IntKind.i64.wrap ((n : Int) + 1) = (N : Int) := by rw [IntWalk.i64_in _ (by omega)]; omega
  have hwT : IntKind.i64.wrap ((t : Int) + 1) = (T : Int) := by rw [IntWalk.i64_in _ (by omega)]; omega
  have hnN : n < N := by omega
  have hnNi : (n : Int) < (N : Int) := by omega
  have HNN := hid hN
  have HTT := hid hT
  have hT1 : 1 ≤ T ∧ T ≤ 61 := by omega
  have hN1 : N ≤ 6 := by omega
  clear hN hT
  go_enter Try.func52, Try.ntmps52
  go_wp2_with fail
  refine (i_areSizes _ _ _ S _ H.out (by omega)).mono ?_
  rintro e w1 ⟨rfl, hb1⟩
  rw [HG.out]
  have HB1 := hid hb1
  clear hb1
  go_wp2_with fail
  refine (i_inside _ _ _ _).mono ?_
  rintro e _ ⟨rfl, rfl⟩
  rw [H60.out]
  go_wp2_with (at_make; refine wpList_make_full _ rfl _ _ 90 rfl w1.heap.size 22 i0 (.slice none 0 0) 1 Try.underlying90 HI.out HZ.out HZ1.out _ _ _ _ N rfl rfl rfl rfl ?b2 ?b3 ?b4 ?_)
  case b2 => rw [HZ2.out]; omega
  case b3 => unfold maxLen; omega
  case b4 => exact Nat.le_refl _
  intro w2 hown hgrow
  have ho : OwnS vf 1 22 w2 w1.heap.size _ (List.replicate N ((none, 0, 0) : VRow)) := OwnS.of_row vf_len (by decide) (n := N) (by have e := madeFlat vf 1 vf_len (by decide) ((none, 0, 0) : VRow) #[.slice none 0 0] rfl N; rw [Nat.mul_one] at e; rw [← e]; exact hown)
  have hb2 := bstep HB1.out (below_of_grown hgrow (Nat.le_refl _) (fun k hk => by simp at hk))
  have hgl := OwnS.lt ho _ rfl
  have T2 := hid (show Tab w w2 w2.heap.size w1.heap.size N T n t S (n + 1) from ⟨⟨_, ho.mono HB1.out.size⟩, hgl.2, Nat.le_refl _, fun j hj hn => by omega, hb2⟩)
  clear hown hgrow ho hb2 hgl
  generalize w1.heap.size = g at *
  go_wp2_with (at_make; refine wpList_make_full _ rfl _ _ 22 rfl w2.heap.size 3 j0 (.int .i64 0) 1 Try.underlying22 HJ.out HY.out HY1.out _ _ _ _ T rfl rfl rfl rfl ?b2 ?b3 ?b4 ?_)
  case b2 => rw [HY2.out]; omega
  case b3 => unfold maxLen; omega
  case b4 => exact Nat.le_refl _
  intro w3 hown hgrow
  have T3 := hid (T2.out.below (below_of_grown hgrow (Nat.le_refl _) (fun k hk => by simp at hk)))
  have O3 := hid (OwnI.made hown)
  clear hown hgrow
  generalize w2.heap.size = Z at *
  obtain ⟨⟨v0, y0⟩, f0⟩ := T3.out.cell0 hnN
  have F0 := hid (T3.out.put hnN (Nat.le_refl _) O3.out)
  go_wp2
  clear y0 f0 T2
  go_loopg [7] (T - 1) (fun gm s wr => ∃ (q : Nat) (l : List Int), 1 ≤ q ∧ q ≤ T ∧ gm = T - q ∧ s = .int .i64 q ∧ Hid (Fill w wr Z g N T n t S n l) ∧ Hid (∀ x, x < q → l[x]?.getD 0 = least (S.drop n) x))
  case atStart =>
    have e0 : ∀ x, x < 1 → (List.replicate T (0 : Int))[x]?.getD 0 = least (S.drop n) x := fun x hx => by
      obtain rfl : x = 0 := by omega
      rw [List.drop_of_length_le (by have := HL.out; omega)]
      simp [least, show 0 < T by omega]
    exact ⟨1, _, by omega, by omega, rfl, rfl, F0, hid e0⟩
  case round =>
    obtain ⟨q, l, hq1, hqT, rfl, rfl, hF, hh⟩ := hrel
    clear F0 T3 O3
    by_cases hlt : q ≤ t
    · have hlti : (q : Int) ≤ (t : Int) := by omega
      have hqTi : (q : Int) < (T : Int) := by have := HTT.out; omega
      have hqT2 : q < T := by omega
      have hcu := hF.out.cur
      have hoc := hF.out.own.cell (k := q) hqT2
      have hof := hF.out.own.frozen (k := q)
      have SS := hid (hF.out.set q 1099511627776)
      have hlen := hF.out.own.len
      have HLN := hid hlen
      clear hlen
      go_wp2
      go_roundg (T - (q + 1))
      case rel =>
        refine ⟨q + 1, _, by omega, by omega, rfl, by go_num, SS, hid (fun x hx => ?_)⟩
        by_cases e : x = q
        · subst e
          rw [List.getElem?_set_self (by have := HLN.out; omega), List.drop_of_length_le (by have := HL.out; omega)]
          simp [least]; omega
        · rw [List.getElem?_set_ne (by omega)]
          exact hh.out x (by omega)
      case measure => omega
    · have hlti : ¬ (q : Int) ≤ (t : Int) := by omega
      obtain rfl : q = T := by have := HTT.out; omega
      have TN := hid (hF.out.done HTT.out hh.out)
      have hwn : IntKind.i64.wrap ((n : Int) - 1) = (n : Int) - 1 := IntWalk.i64_in _ (by omega)
      clear hF hh hlti
      go_wp2
      go_loopg [8] n (fun gm s wr => ∃ (k Zb : Nat) (x : Int), k ≤ n ∧ k = gm ∧ s = .int .i64 x ∧ x = (k : Int) - 1 ∧ Hid (Tab w wr Zb g N q n t S k))
      case atStart => exact ⟨n, _, _, Nat.le_refl _, rfl, rfl, rfl, TN⟩
      case round =>
        obtain ⟨k, Zb, x, hk, rfl, rfl, hx, hTb⟩ := hrel
        clear TN
        by_cases hk0 : k = 0
        · subst hk0
          have hxn : ¬ 0 ≤ x := by omega
          have HTB := hid (hTb.out.le hTb.out.zs (Nat.le_refl _))
          obtain ⟨Zc, hZc⟩ : ∃ Zc, wr.heap.size = Zc := ⟨_, rfl⟩
          rw [hZc] at HTB
          have HZC := hid hZc
          clear hZc hTb
          obtain ⟨G, hG⟩ : ∃ G, greedy S t = G := ⟨_, rfl⟩
          have HGL := hid (show G.length = n by rw [← hG, greedy_len]; exact HL.out)
          have HGS := hid (show G.sum = t by rw [← hG, greedy_sum (by have := HL.out; omega)])
          have HGA := hid (fun i (hi : i < n) => by have := greedy_at (S := S) (k := t) (i := i) (by have := HL.out; omega) HS.out ht (by have := HL.out; omega); rw [hG] at this; exact this)
          have HGE := hid hG
          clear hG
          have HOW := hid (show OwnI (wr.alloc (.cells #[] 3)) Zc (.slice (some ⟨wr.heap.size, 0, none⟩) 0 0) [] by have := OwnI.lit0 wr; rw [HZC.out] at this ⊢; exact this)
          have HTC := hid (HTB.out.below (by go_grown : Below wr.heap.size wr (wr.alloc (.cells #[] 3))))
          go_wp2
          clear HTB HZC
          generalize wr.alloc (.cells #[] 3) = wa at *
          have HS0 := hid (show OwnI wa Zc (.slice (some ⟨wr.heap.size, 0, none⟩) 0 0) (liftN (G.take 0)) from HOW.out)
          have hr0 : (t : Int) = ((rest G 0 : Nat) : Int) := by rw [rest_zero, HGS.out]
          go_loopg [1, 11, 115] n (fun gm s1 s11 s115 wr => ∃ (i : Nat) (a' : Option Addr) (c' : Nat), i ≤ n ∧ gm = n - i ∧ s1 = .int .i64 ((rest G i : Nat) : Int) ∧ s11 = .slice a' i c' ∧ s115 = .int .i64 i ∧ Hid (Tab w wr Zc g N q n t S 0) ∧ Hid (OwnI wr Zc (.slice a' i c') (liftN (G.take i))))
          case atStart => exact ⟨0, _, 0, Nat.zero_le _, rfl, by rw [hr0], rfl, rfl, HTC, HS0⟩
          case round =>
            obtain ⟨i, a', c', hi, rfl, rfl, rfl, rfl, hT, hO⟩ := hrel
            clear HTC HOW HS0 hr0
            by_cases hlt : i < n
            · obtain ⟨r, hr⟩ : ∃ r, rest G i = r := ⟨_, rfl⟩
              have hrt : r ≤ t := by have := rest_le G i; have := HGS.out; omega
              have hrs := rest_succ G i (by have := HGL.out; omega)
              rw [hr] at hrs ⊢
              have hga := HGA.out i hlt
              rw [hr] at hga
              have HGI := hid hga
              have hsz := sz_fit HL.out HS.out hlt
              obtain ⟨b0, off0, rfl, hbw, hcl⟩ := (H.out.below hT.out.bel).2 i hlt
              have hcl2 : wr.cell? ⟨b0, off0 + i, none⟩ = some (.int .i64 (sz S i)) := hcl
              obtain ⟨z, hz⟩ : ∃ z, qt G i = z := ⟨_, rfl⟩
              rw [hz] at hrs HGI
              obtain ⟨v2, hv2⟩ : ∃ v, sz S i = v := ⟨_, rfl⟩
              rw [hv2] at hsz hcl2 HGI
              clear hv2
              have HQZ := hid hz
              have HRR := hid hr
              have HRS := hid hrs
              have hzr : z ≤ r := by omega
              obtain ⟨W0, hW0⟩ : ∃ W, W = wr := ⟨_, rfl⟩
              subst hW0
              clear hga hcl hz hr hrs
              go_wp2
              go_loopg [14] (r - z) (fun gm s wx => ∃ p : Nat, z ≤ p ∧ p ≤ r ∧ gm = p - z ∧ s = .int .i64 p ∧ Hid (Below W0.heap.size W0 wx))
              case atStart => exact ⟨r, by omega, Nat.le_refl _, rfl, rfl, hid (Below.refl _ _)⟩
              case round =>
                obtain ⟨p, hp1, hp2, rfl, rfl, hB⟩ := hrel
                clear hcl2 hbw
                have HT2 := hid (hT.out.below hB.out)
                obtain ⟨b1, q1, q2, q3, q4⟩ := HT2.out.rows (i + 1) (by omega) (by omega)
                have q5 := q4 (r - p) (by omega)
                obtain ⟨b2, x1, x2, x3, x4⟩ := HT2.out.rows i (by omega) (by omega)
                have x5 := x4 r (by omega)
                obtain ⟨d, hd⟩ : ∃ d, r - p = d := ⟨_, rfl⟩
                obtain ⟨i1, hi1⟩ : ∃ i1, i + 1 = i1 := ⟨_, rfl⟩
                have hlr := least_range (S.drop (i + 1)) (r - p) (fun s hs => (HS.out s (List.mem_of_mem_drop hs)).1)
                have hcf := cube_fit (x := v2) (y := (p : Int)) hsz (by omega)
                have hw1 := IntWalk.i64_in (v2 * (p : Int)) (by omega)
                have hw2 := IntWalk.i64_in (v2 * (p : Int) * (p : Int)) (by omega)
                have hw3 := IntWalk.i64_in (v2 * (p : Int) * (p : Int) * (p : Int)) (by omega)
                have hw4 := IntWalk.i64_in (v2 * (p : Int) * (p : Int) * (p : Int) + least (S.drop (i + 1)) (r - p)) (by omega)
                have hw5 : IntKind.i64.wrap ((r : Int) - (p : Int)) = (d : Int) := by rw [IntWalk.i64_in _ (by omega)]; omega
                have hw6 : IntKind.i64.wrap ((i : Int) + 1) = (i1 : Int) := by rw [IntWalk.i64_in _ (by omega)]; omega
                have hi1N : i1 < N := by have := HNN.out; omega
                have hiN : i < N := by omega
                have hdq : d < q := by have := HTT.out; omega
                have hrq : r < q := by have := HTT.out; omega
                rw [hd] at q5
                rw [hi1] at q3
                by_cases hpz : p = z
                · subst hpz
                  have hrp : rest G (i + 1) = r - p := by have := HRS.out; omega
                  have HRP := hid hrp
                  have hcond : (v2 * (p : Int) * (p : Int) * (p : Int) + least (S.drop (i + 1)) (r - p) != least (S.drop i) r) = false := by
                    have h1 := HGI.out.1
                    rw [hrp] at h1
                    unfold cube at h1
                    simp [h1]
                  rw [hd] at hlr hw4 hcond
                  generalize least (S.drop (i + 1)) d = v1 at *
                  generalize least (S.drop i) r = v3 at *
                  have HI1 := hid hi1
                  have HDR := hid (show rest G (i + 1) = d by omega)
                  clear q4 x4 hd hi1 hrp
                  go_upto_region 28 with fail
                  go_quiet (fail)
                  clear q3 q5 x3 x5
                  have T3 := hid (HT2.out.below (bdraws nq))
                  have O3 := hid (hO.out.below (below_drewN hB.out nq))
                  generalize wr.drewN nq = w3 at *
                  have hl3 := O3.out.len
                  have hs3 := T3.out.zs
                  go_wp2_with (at_builtin; refine wp_append_ints _ rfl _ _ rfl Zc _ (liftN (G.take i)) rfl (O3.out.alloc _) _ 1 1 [(p : Int)] rfl (IntsAt.single _ _) (i + 1) (by omega) (by omega) (by simp; omega) ?_)
                  intro a5 c5 w5 hown hgrow hblk
                  have T5 := hid ((T3.out.below (by go_grown : Below w3.heap.size w3 (w3.alloc (.cells #[.int .i64 (p : Int)] 3)))).kept hgrow (fun k hk => (O3.out.lt k hk).1) (fun k hk => by have := (O3.out.lt k hk).1; have := T3.out.gz; obtain ⟨R, hR⟩ := T3.out.out; have h9 : w.heap.size ≤ g := (OwnS.lt hR g rfl).1; omega))
                  have O5 := hid (show OwnI w5 Zc (.slice a5 (i + 1) c5) (liftN (G.take (i + 1))) by rw [liftN_take G i (by have := HGL.out; omega), HQZ.out]; exact hown)
                  clear hown hgrow hblk hl3 hs3
                  go_wp2
                  go_roundg (n - (i + 1))
                  case rel => exact ⟨i + 1, _, _, by omega, rfl, by rw [HDR.out], rfl, by rw [HI1.out], T5, O5⟩
                  case measure => omega
                · have hcond : (v2 * (p : Int) * (p : Int) * (p : Int) + least (S.drop (i + 1)) (r - p) != least (S.drop i) r) = true := by
                    have h1 := HGI.out.2 p (by omega) (by omega)
                    unfold cube at h1
                    simpa using h1
                  rw [hd] at hlr hw4 hcond
                  generalize least (S.drop (i + 1)) d = v1 at *
                  generalize least (S.drop i) r = v3 at *
                  have hwp : IntKind.i64.wrap ((p : Int) - 1) = ((p - 1 : Nat) : Int) := by rw [IntWalk.i64_in _ (by omega)]; omega
                  clear q4 x4 hd hi1
                  go_upto_region 28 with fail
                  go_quiet (fail)
                  go_wp2
                  go_roundg (p - 1 - z)
                  case rel => exact ⟨p - 1, by omega, by omega, rfl, rfl, hid (below_drewN hB.out _)⟩
                  case measure => omega
            · obtain rfl : i = n := by omega
              go_wp2
              go_ret2
              have e9 : G.take i = G := List.take_of_length_le (by have := HGL.out; omega)
              have o9 := hO.out
              rw [e9] at o9
              rw [HGE.out]
              have h9 : w.heap.size ≤ Zc := by have := hT.out.gz; obtain ⟨R, hR⟩ := hT.out.out; have h9 : w.heap.size ≤ g := (OwnS.lt hR g rfl).1; omega
              exact ⟨_, _, rfl, o9.mono h9, hT.out.bel⟩
        · obtain ⟨i, rfl⟩ : ∃ i, k = i + 1 := ⟨k - 1, by omega⟩
          obtain rfl : x = (i : Int) := by omega
          have hi0 : (0 : Int) ≤ (i : Int) := by omega
          have hin : i < n := by omega
          have hiN : i < N := by omega
          have hiNi : (i : Int) < (N : Int) := by omega
          clear hx
          go_wp2_with (at_make; refine wpList_make_full _ rfl _ _ 22 rfl wr.heap.size 3 j0 (.int .i64 0) 1 Try.underlying22 HJ.out HY.out HY1.out _ _ _ _ q rfl rfl rfl rfl ?b2 ?b3 ?b4 ?_)
          case b2 => rw [HY2.out]; omega
          case b3 => unfold maxLen; omega
          case b4 => exact Nat.le_refl _
          intro w5 hown hgrow
          have T5 := hid (hTb.out.below (below_of_grown hgrow (Nat.le_refl _) (fun k hk => by simp at hk)))
          have O5 := hid (OwnI.made hown)
          have hzb := hTb.out.zs
          clear hown hgrow
          generalize wr.heap.size = Z5 at *
          obtain ⟨⟨v5, y5⟩, f5⟩ := T5.out.cell0 hiN
          have F5 := hid (T5.out.put hiN hzb O5.out)
          go_wp2
          clear y5 f5 hTb T5 O5 hzb
          have HIN := hid hin
          have hsz := sz_fit HL.out HS.out hin
          go_loopg [61] q (fun gm s wr => ∃ (al : Nat) (l : List Int), al ≤ q ∧ gm = q - al ∧ s = .int .i64 al ∧ Hid (Fill w wr Z5 g N q n t S i l) ∧ Hid (∀ x, x < al → l[x]?.getD 0 = least (S.drop i) x))
          case atStart => exact ⟨0, _, Nat.zero_le _, rfl, rfl, F5, hid (fun x hx => by omega)⟩
          case round =>
            obtain ⟨al, l, hal, rfl, rfl, hF, hh⟩ := hrel
            clear F5
            by_cases hlt : al < q
            · have hcu := hF.out.cur
              have hoc := hF.out.own.cell (k := al) hlt
              have hof := hF.out.own.frozen (k := al)
              have F6 := hid (hF.out.set al 1099511627776)
              have hl6 : al < l.length := by rw [hF.out.own.len]; exact hlt
              have e6 : (l.set al 1099511627776)[al]?.getD 0 = mins (fun p => cube (sz S i) p + least (S.drop (i + 1)) (al - p)) 0 := by rw [List.getElem?_set_self hl6]; rfl
              have e7 : ∀ x, x < al → (l.set al 1099511627776)[x]?.getD 0 = least (S.drop i) x := fun x hx => by rw [List.getElem?_set_ne (by omega)]; exact hh.out x hx
              have E6 := hid e6
              have E7 := hid e7
              have hwa : IntKind.i64.wrap ((al : Int) + 1) = ((al + 1 : Nat) : Int) := by rw [IntWalk.i64_in _ (by omega)]; omega
              clear e6 e7 hF hh hl6
              go_wp2
              clear hcu hoc hof
              generalize l.set al 1099511627776 = l6 at *
              go_loopg [72] (al + 1) (fun gm s wr => ∃ (p : Nat) (l : List Int), p ≤ al + 1 ∧ gm = al + 1 - p ∧ s = .int .i64 p ∧ Hid (Fill w wr Z5 g N q n t S i l) ∧ Hid (l[al]?.getD 0 = mins (fun p => cube (sz S i) p + least (S.drop (i + 1)) (al - p)) p) ∧ Hid (∀ x, x < al → l[x]?.getD 0 = least (S.drop i) x))
              case atStart => exact ⟨0, _, Nat.zero_le _, rfl, rfl, F6, E6, E7⟩
              case round =>
                obtain ⟨p, l, hp, rfl, rfl, hF, h6, h7⟩ := hrel
                clear F6 E6 E7
                by_cases hlp : p < al + 1
                · have hcu := hF.out.cur
                  have hoc := hF.out.own.cell (k := al) hlt
                  have hof := hF.out.own.frozen (k := al)
                  obtain ⟨b1, q1, q2, q3, q4⟩ := hF.out.tab.rows (i + 1) (by omega) (by omega)
                  have q5 := q4 (al - p) (by have := HTT.out; omega)
                  obtain ⟨b0, off0, rfl, hbw, hcl⟩ := (H.out.below hF.out.tab.bel).2 i hin
                  have hcl2 : wr.cell? ⟨b0, off0 + i, none⟩ = some (.int .i64 (sz S i)) := hcl
                  have hbz : b0 < wr.heap.size := hbw
                  have hz5 := (hF.out.own.lt Z5 rfl).2
                  have hl6 : al < l.length := by rw [hF.out.own.len]; exact hlt
                  have E8 := hid (show (l.set al (min (l[al]?.getD 0) (cube (sz S i) p + least (S.drop (i + 1)) (al - p))))[al]?.getD 0 = mins (fun p => cube (sz S i) p + least (S.drop (i + 1)) (al - p)) (p + 1) by rw [List.getElem?_set_self hl6, h6.out]; rfl)
                  have E9 := hid (show ∀ x, x < al → (l.set al (min (l[al]?.getD 0) (cube (sz S i) p + least (S.drop (i + 1)) (al - p))))[x]?.getD 0 = least (S.drop i) x from fun x hx => by rw [List.getElem?_set_ne (by omega)]; exact h7.out x hx)
                  have hlr := least_range (S.drop (i + 1)) (al - p) (fun s hs => (HS.out s (List.mem_of_mem_drop hs)).1)
                  have hcf := cube_fit (x := sz S i) (y := (p : Int)) hsz (by omega)
                  have hw1 := IntWalk.i64_in (sz S i * (p : Int)) (by omega)
                  have hw2 := IntWalk.i64_in (sz S i * (p : Int) * (p : Int)) (by omega)
                  have hw3 := IntWalk.i64_in (sz S i * (p : Int) * (p : Int) * (p : Int)) (by omega)
                  have hw4 := IntWalk.i64_in (sz S i * (p : Int) * (p : Int) * (p : Int) + least (S.drop (i + 1)) (al - p)) (by omega)
                  obtain ⟨d, hd⟩ : ∃ d, al - p = d := ⟨_, rfl⟩
                  obtain ⟨i1, hi1⟩ : ∃ i1, i + 1 = i1 := ⟨_, rfl⟩
                  have hw5 : IntKind.i64.wrap ((al : Int) - (p : Int)) = (d : Int) := by rw [IntWalk.i64_in _ (by omega)]; omega
                  have hw6 : IntKind.i64.wrap ((i : Int) + 1) = (i1 : Int) := by rw [IntWalk.i64_in _ (by omega)]; omega
                  have hi1N : i1 < N := by have := HNN.out; omega
                  have hapq : d < q := by omega
                  have hwp : IntKind.i64.wrap ((p : Int) + 1) = ((p + 1 : Nat) : Int) := by rw [IntWalk.i64_in _ (by omega)]; omega
                  rw [hd] at q5
                  rw [hi1] at q3
                  obtain ⟨v1, hv1⟩ : ∃ v, least (S.drop (i + 1)) (al - p) = v := ⟨_, rfl⟩
                  obtain ⟨v0, hv0⟩ : ∃ v, l[al]?.getD 0 = v := ⟨_, rfl⟩
                  obtain ⟨v2, hv2⟩ : ∃ v, sz S i = v := ⟨_, rfl⟩
                  rw [hv0] at hoc
                  rw [← hd, hv1] at q5
                  rw [hd] at q5
                  have HV := hid (show l[al]?.getD 0 = v0 ∧ least (S.drop (i + 1)) (al - p) = v1 ∧ sz S i = v2 from ⟨hv0, hv1, hv2⟩)
                  rw [hv1] at hlr hw4
                  rw [hv2] at hcl2 hcf hw1 hw2 hw3 hw4 hsz
                  clear hv0 hv1 hv2 hcl h6 h7 hd hi1 q4 hl6
                  go_upto_region 20 with fail
                  go_still_tail 35, (by kernel_rfl)
                  change wpList _ _ _ _ _ wr.drew
                  have F9 := hid (hF.out.below (Below.refl _ _).drew : Fill w wr.drew Z5 g N q n t S i l)
                  have hcu9 := F9.out.cur
                  have hoc9 : wr.drew.cell? ⟨Z5, al, none⟩ = some (.int .i64 v0) := hoc
                  have hof9 := F9.out.own.frozen (k := al)
                  generalize wr.drew = w9 at *
                  clear hcu hoc hof q3 q5 hcl2 hF
                  go_wp2
                  · rename_i hmin
                    have em : min v0 (cube v2 p + v1) = v2 * (p : Int) * (p : Int) * (p : Int) + v1 := by unfold cube; omega
                    go_roundg (al + 1 - (p + 1))
                    case rel =>
                      obtain ⟨hv0, hv1, hv2⟩ := HV.out
                      rw [hv0, hv1, hv2, em] at E8 E9
                      refine ⟨p + 1, _, by omega, rfl, rfl, hid (F9.out.set al _), hid ?_, E9⟩
                      rw [hv2]
                      exact E8.out
                    case measure => omega
                  · rename_i hmin
                    have em : min v0 (cube v2 p + v1) = v0 := by unfold cube; omega
                    go_roundg (al + 1 - (p + 1))
                    case rel =>
                      obtain ⟨hv0, hv1, hv2⟩ := HV.out
                      rw [hv0, hv1, hv2, em] at E8 E9
                      refine ⟨p + 1, _, by omega, rfl, rfl, hid (F9.out.set al _), hid ?_, E9⟩
                      rw [hv2]
                      exact E8.out
                    case measure => omega
                · obtain rfl : p = al + 1 := by omega
                  have E8 := hid (show ∀ x, x < al + 1 → l[x]?.getD 0 = least (S.drop i) x from fun x hx => by
                    by_cases e : x = al
                    · subst e; rw [h6.out, drop_S S i (by have := HL.out; omega)]; rfl
                    · exact h7.out x (by omega))
                  go_wp2
                  go_roundg (q - (al + 1))
                  case rel => exact ⟨al + 1, _, by omega, rfl, by go_num, hF, E8⟩
                  case measure => omega
            · obtain rfl : al = q := by omega
              have hwi : IntKind.i64.wrap ((i : Int) - 1) = (i : Int) - 1 := IntWalk.i64_in _ (by omega)
              have TD := hid (hF.out.done HTT.out hh.out)
              go_wp2
              go_roundg i
              case rel => exact ⟨i, _, _, by omega, rfl, rfl, rfl, TD⟩
              case measure => omega

end Go.Proofs.Ytpmffboojkfpdaa
