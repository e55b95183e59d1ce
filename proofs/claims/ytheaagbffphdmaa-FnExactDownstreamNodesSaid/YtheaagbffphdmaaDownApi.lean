/-
  DownstreamNodes, in the program and in the reference.
-/
import Derived.Test.YtheaagbffphdmaaDown
import Derived.Test.YtheaagbffphdmaaRing
import Derived.Test.YtheaagbffphdmaaNode
import Derived.Test.YtheaagbffphdmaaNetL
set_option linter.unusedVariables false
set_option linter.unusedSimpArgs false
namespace Go.Proofs.Ytheaagbffphdmaa
open Go.RowKit

theorem findQ_id {l : List Pip} {id : Int} {k : Nat} (h : findQ l id = k) : (pp l k).1 = id := by
  unfold findQ at h
  split at h
  · rename_i i hi
    obtain rfl : i = k := by omega
    rw [List.findIdx?_eq_some_iff_getElem] at hi
    obtain ⟨h1, h2, -⟩ := hi
    rw [pp_get h1]
    simpa using h2
  · omega

theorem i_hasPipe (N x : Int) (a : Option Addr) (n c : Nat) (l : List Pip) (w : World) (h : QAt w a n l) (hn : n ≤ 1048576) :
    Calls Try.prog 94 #[.agg #[.int .i64 N, .slice a n c], .int .i64 x] w fun e w' => e = .returned (.bool (goodNet N l && decide (0 ≤ findQ l x))) ∧ Below w.heap.size w w' := by
  have H := hid h
  clear h
  cases h1 : goodNet N l
  · have HG := hid h1
    clear h1
    go_enter Try.func94, Try.ntmps94
    go_wp2_with fail
    refine (i_IsValidNetwork N _ _ _ l _ (H.out.below (by go_grown)) (by omega)).mono ?_
    rintro e w1 ⟨rfl, hb1⟩
    rw [HG.out]
    obtain ⟨hc_w1, hf_w1⟩ := bcell hb1
    have hz_w1_0 : w.heap.size < w1.heap.size := by have := hb1.size; simp only [World.size_alloc] at this; omega
    have HB1 := hid (bstep (by go_grown) hb1 : Below w.heap.size w w1)
    go_wp2
    go_ret
    exact ⟨rfl, HB1.out⟩
  · have HG := hid h1
    clear h1
    go_enter Try.func94, Try.ntmps94
    go_wp2_with fail
    refine (i_IsValidNetwork N _ _ _ l _ (H.out.below (by go_grown)) (by omega)).mono ?_
    rintro e w1 ⟨rfl, hb1⟩
    rw [HG.out]
    obtain ⟨hc_w1, hf_w1⟩ := bcell hb1
    have hz_w1_0 : w.heap.size < w1.heap.size := by have := hb1.size; simp only [World.size_alloc] at this; omega
    have HB1 := hid (bstep (by go_grown) hb1 : Below w.heap.size w w1)
    go_wp2_with fail
    refine (i_pipeIndex N x _ _ _ l _ (H.out.below HB1.out) hn).mono ?_
    rintro e w2 ⟨rfl, hb2⟩
    go_wp2
    go_ret
    exact ⟨rfl, bstep HB1.out hb2⟩

/-- What DownstreamNodes returns. -/
noncomputable def downR (N : Int) (l : List Pip) (s id : Int) : List Int × Bool := if (goodNet N l && inR s 1 N) = true ∧ 0 ≤ findQ l id ∧ treeB N l = true then (neg (distL N l id s) (N.toNat + 1), true) else ([], false)
theorem downR_no {N : Int} {l : List Pip} {s id : Int} (h : (goodNet N l && inR s 1 N) = false ∨ findQ l id = -1 ∨ treeB N l = false) : downR N l s id = ([], false) := by
  unfold downR
  rw [if_neg]
  rintro ⟨h1, h2, h3⟩
  rcases h with h | h | h
  · rw [h] at h1; cases h1
  · omega
  · rw [h] at h3; cases h3

theorem downR_len {N : Int} {l : List Pip} {s id : Int} {R : List Int} {b : Bool} (h : downR N l s id = (R, b)) : R.length ≤ 1000 := by
  unfold downR at h
  split at h
  · rename_i h1
    cases h
    have hN := (goodNet_get ((Bool.and_eq_true _ _).mp h1.1).1).1
    have := neg_len (distL N l id s) (N.toNat + 1)
    omega
  · cases h
    simp

set_option maxRecDepth 100000 in
set_option maxHeartbeats 2000000 in
theorem i_DownstreamNodes (N s id : Int) (a : Option Addr) (n c : Nat) (l : List Pip) (w : World) (h : QAt w a n l) (hn : n ≤ 1048576) (R : List Int) (b : Bool) (hR : downR N l s id = (R, b)) :
    Calls Try.prog 47 #[.agg #[.int .i64 N, .slice a n c], .int .i64 s, .int .i64 id] w fun e w' => ∃ a' c', e = .returned (.tuple #[.slice a' R.length c', .bool b]) ∧ OwnI w' w.heap.size (.slice a' R.length c') R ∧ Below w.heap.size w w' := by
  have H := hid h
  clear h
  cases h1 : goodNet N l && inR s 1 N
  · rw [downR_no (.inl h1)] at hR
    cases hR
    have H1 := hid h1
    clear h1
    go_enter Try.func47, Try.ntmps47
    go_wp2_with fail
    refine (i_hasNode _ s _ _ _ l _ (H.out.below (by go_grown)) hn).mono ?_
    rintro e w1 ⟨rfl, hb1⟩
    rw [H1.out]
    obtain ⟨hc_w1, hf_w1⟩ := bcell hb1
    have hz_w1_0 : w.heap.size < w1.heap.size := by have := hb1.size; simp only [World.size_alloc] at this; omega
    have HB1 := hid (bstep (by go_grown) hb1 : Below w.heap.size w w1)
    go_wp2
    go_ret2
    exact ⟨_, _, rfl, OwnI.nil _ _, HB1.out⟩
  · obtain ⟨hg, hs⟩ := (Bool.and_eq_true _ _).mp h1
    have hN := (goodNet_get hg).1
    obtain ⟨M, rfl⟩ : ∃ M : Nat, N = M := ⟨N.toNat, by omega⟩
    have H1 := hid h1
    have HG := hid hg
    have HS := hid (inR_iff.1 hs)
    have hM : M ≤ 8 := by omega
    clear h1 hs hN
    rcases findQ_cases l id with hf | ⟨k, hk, hf⟩
    · rw [downR_no (.inr (.inl hf))] at hR
      cases hR
      have H2 := hid (show (goodNet M l && decide (0 ≤ findQ l id)) = false by rw [hf]; simp)
      clear hf hg
      go_enter Try.func47, Try.ntmps47
      go_wp2_with fail
      refine (i_hasNode _ s _ _ _ l _ (H.out.below (by go_grown)) hn).mono ?_
      rintro e w1 ⟨rfl, hb1⟩
      rw [H1.out]
      obtain ⟨hc_w1, hf_w1⟩ := bcell hb1
      have hz_w1_0 : w.heap.size < w1.heap.size := by have := hb1.size; simp only [World.size_alloc] at this; omega
      have HB1 := hid (bstep (by go_grown) hb1 : Below w.heap.size w w1)
      go_wp2_with fail
      refine (i_hasPipe _ id _ _ _ l _ (H.out.below HB1.out) hn).mono ?_
      rintro e w2 ⟨rfl, hb2⟩
      rw [H2.out]
      obtain ⟨hc_w2, hf_w2⟩ := bcell hb2
      have hz_w2_0 : w.heap.size < w2.heap.size := by have := hb2.size; omega
      have HB2 := hid (bstep HB1.out hb2 : Below w.heap.size w w2)
      go_wp2
      go_ret2
      exact ⟨_, _, rfl, OwnI.nil _ _, HB2.out⟩
    · have H2 := hid (show (goodNet M l && decide (0 ≤ findQ l id)) = true by rw [hf, hg]; simp)
      cases h3 : treeB M l
      · rw [downR_no (.inr (.inr h3))] at hR
        cases hR
        have H3 := hid h3
        clear h3 hf hg hk
        go_enter Try.func47, Try.ntmps47
        go_wp2_with fail
        refine (i_hasNode _ s _ _ _ l _ (H.out.below (by go_grown)) hn).mono ?_
        rintro e w1 ⟨rfl, hb1⟩
        rw [H1.out]
        obtain ⟨hc_w1, hf_w1⟩ := bcell hb1
        have hz_w1_0 : w.heap.size < w1.heap.size := by have := hb1.size; simp only [World.size_alloc] at this; omega
        have HB1 := hid (bstep (by go_grown) hb1 : Below w.heap.size w w1)
        go_wp2_with fail
        refine (i_hasPipe _ id _ _ _ l _ (H.out.below HB1.out) hn).mono ?_
        rintro e w2 ⟨rfl, hb2⟩
        rw [H2.out]
        obtain ⟨hc_w2, hf_w2⟩ := bcell hb2
        have hz_w2_0 : w.heap.size < w2.heap.size := by have := hb2.size; omega
        have HB2 := hid (bstep HB1.out hb2 : Below w.heap.size w w2)
        go_wp2_with fail
        refine (i_isTree M _ _ _ l _ (H.out.below HB2.out) HG.out).mono ?_
        rintro e w3 ⟨rfl, hb3⟩
        rw [H3.out]
        obtain ⟨hc_w3, hf_w3⟩ := bcell hb3
        have hz_w3_0 : w.heap.size < w3.heap.size := by have := hb3.size; omega
        have HB3 := hid (bstep HB2.out hb3 : Below w.heap.size w w3)
        go_wp2
        go_ret2
        exact ⟨_, _, rfl, OwnI.nil _ _, HB3.out⟩
      · have e0 : downR M l s id = (neg (distL M l id s) (M + 1), true) := by
          unfold downR
          rw [if_pos ⟨H1.out, by omega, h3⟩]
          simp
        rw [e0] at hR
        cases hR
        obtain ⟨D, hD⟩ : ∃ D, distL M l id s = D := ⟨_, rfl⟩
        rw [hD]
        have HDD := hid hD
        have H3 := hid h3
        clear h3 hf hg hk hD e0
        go_enter Try.func47, Try.ntmps47
        go_wp2_with fail
        refine (i_hasNode _ s _ _ _ l _ (H.out.below (by go_grown)) hn).mono ?_
        rintro e w1 ⟨rfl, hb1⟩
        rw [H1.out]
        obtain ⟨hc_w1, hf_w1⟩ := bcell hb1
        have hz_w1_0 : w.heap.size < w1.heap.size := by have := hb1.size; simp only [World.size_alloc] at this; omega
        have HB1 := hid (bstep (by go_grown) hb1 : Below w.heap.size w w1)
        go_wp2_with fail
        refine (i_hasPipe _ id _ _ _ l _ (H.out.below HB1.out) hn).mono ?_
        rintro e w2 ⟨rfl, hb2⟩
        rw [H2.out]
        obtain ⟨hc_w2, hf_w2⟩ := bcell hb2
        have hz_w2_0 : w.heap.size < w2.heap.size := by have := hb2.size; omega
        have HB2 := hid (bstep HB1.out hb2 : Below w.heap.size w w2)
        go_wp2_with fail
        refine (i_isTree M _ _ _ l _ (H.out.below HB2.out) HG.out).mono ?_
        rintro e w3 ⟨rfl, hb3⟩
        rw [H3.out]
        obtain ⟨hc_w3, hf_w3⟩ := bcell hb3
        have hz_w3_0 : w.heap.size < w3.heap.size := by have := hb3.size; omega
        have HB3 := hid (bstep HB2.out hb3 : Below w.heap.size w w3)
        go_wp2_with fail
        refine (i_distances M s id _ _ _ l _ (H.out.below (bstep HB3.out (by go_grown))) HG.out HS.out).mono ?_
        rintro e w4 ⟨ad, cd, rfl, hod, hb4⟩
        obtain ⟨gd, rfl, hgd1, hgd2⟩ := own_some hod (by omega)
        simp only [World.size_alloc] at hgd1 hod
        rw [HDD.out] at hod
        have HD := hid hod
        have HB4 := hid (bstep HB3.out (bstep (by go_grown) hb4) : Below w.heap.size w w4)
        have HO := hid (show OwnI w4 w.heap.size (.slice (some ⟨w3.heap.size, 0, none⟩) (neg D 0).length 0) (neg D 0) from by
          have := ((OwnI.lit0 w3).below hb4).mono (B' := w.heap.size) HB3.out.size
          simpa [neg] using this)
        have hz4 := HB3.out.size
        clear hod hb4
        go_wp2
        go_loopg [8, 32] (M + 1) (fun g o i wr => ∃ (k : Nat) (a' : Option Addr) (c' : Nat), k ≤ M + 1 ∧ g = M + 1 - k ∧ i = .int .i64 k ∧ o = .slice a' (neg D k).length c' ∧ Hid (OwnI wr w.heap.size (.slice a' (neg D k).length c') (neg D k) ∧ OwnI wr w.heap.size (.slice (some ⟨gd, 0, none⟩) (M + 1) cd) D ∧ Below w.heap.size w wr ∧ Value.ownBlock (.slice a' (neg D k).length c') ≠ some gd))
        case atStart =>
          refine ⟨0, some ⟨w3.heap.size, 0, none⟩, 0, Nat.zero_le _, rfl, rfl, rfl, hid ⟨HO.out, HD.out.mono (by omega), HB4.out, ?_⟩⟩
          simp [Value.ownBlock]
          omega
        case round =>
          obtain ⟨k, a', c', hk, rfl, rfl, rfl, hh⟩ := hrel
          have hlen := neg_len D k
          by_cases hlt : k < M + 1
          · have hcell := hh.out.2.1.cell (k := k) hlt
            have hgw : gd < wr.heap.size := (hh.out.2.1.lt _ rfl).2
            by_cases h0 : 0 < k
            · by_cases hp : D[k]?.getD 0 < 0
              · have E := hid (neg_yes h0 hp)
                go_wp2_with (at_builtin; refine wp_append_ints _ rfl _ _ rfl w.heap.size _ (neg D k) rfl (hh.out.1.alloc _) _ 1 1 [(k : Int)] rfl (IntsAt.single _ _) ((neg D k).length + 1) (by simp) (by omega) (by have := hh.out.2.2.1.size; simp; omega) ?_)
                intro a2 c2 w5 hown hgrow hblk
                have hl2 : (neg D k).length + 1 = (neg D (k + 1)).length := by rw [E.out]; simp
                rw [hl2] at hown hblk ⊢
                have S2 := hid (show OwnI w5 w.heap.size (.slice a2 (neg D (k + 1)).length c2) (neg D (k + 1)) ∧ OwnI w5 w.heap.size (.slice (some ⟨gd, 0, none⟩) (M + 1) cd) D ∧ Below w.heap.size w w5 ∧ Value.ownBlock (.slice a2 (neg D (k + 1)).length c2) ≠ some gd from by
                  refine ⟨by rw [E.out] at hown ⊢; exact hown, (hh.out.2.1.alloc _).kept hgrow (.inr (fun e => hh.out.2.2.2 (by rw [← e]; rfl))), (bstep hh.out.2.2.1 (by go_grown)).grown hgrow (by have := hh.out.2.2.1.size; simp; omega) (fun q hq => (hh.out.1.lt q hq).1), ?_⟩
                  rcases hblk with e | e
                  · rw [e]; exact hh.out.2.2.2
                  · rw [e]; simp; omega)
                clear hown hgrow hblk hl2
                go_wp2
                go_roundg (M + 1 - (k + 1))
                case rel => exact ⟨k + 1, _, _, by omega, rfl, by go_num, rfl, S2⟩
                case measure => omega
              · have E := hid (neg_no (L := D) (k := k) (fun h => hp h.2))
                go_wp2
                go_roundg (M + 1 - (k + 1))
                case rel => exact ⟨k + 1, a', c', by omega, rfl, by go_num, by rw [E.out], hid (by rw [E.out]; exact hh.out)⟩
                case measure => omega
            · have E := hid (neg_no (L := D) (k := k) (fun h => h0 h.1))
              go_wp2
              go_roundg (M + 1 - (k + 1))
              case rel => exact ⟨k + 1, a', c', by omega, rfl, by go_num, by rw [E.out], hid (by rw [E.out]; exact hh.out)⟩
              case measure => omega
          · obtain rfl : k = M + 1 := by omega
            go_wp2
            go_ret2
            exact ⟨_, _, rfl, hh.out.1, hh.out.2.2.1⟩

set_option maxRecDepth 100000 in
set_option maxHeartbeats 2000000 in
theorem s_DownstreamNodes (N s id : Int) (a : Option Addr) (n c : Nat) (l : List Pip) (w : World) (h : QAt w a n l) (hn : n ≤ 1048576) (hc : n ≤ c) (R : List Int) (b : Bool) (hR : downR N l s id = (R, b)) :
    Calls Try.prog 46 #[.agg #[.int .i64 N, .slice a n c], .int .i64 s, .int .i64 id] w fun e w' => ∃ a' c', e = .returned (.tuple #[.slice a' R.length c', .bool b]) ∧ OwnI w' w.heap.size (.slice a' R.length c') R ∧ Below w.heap.size w w' := by
  have H := hid h
  have hl := h.1
  clear h
  rcases findQ_cases l id with hf | ⟨k, hk, hf⟩
  · rw [downR_no (.inr (.inl hf))] at hR
    cases hR
    have HF := hid hf
    obtain ⟨z, hz⟩ : ∃ z, (goodNet N l && inR s 1 N) = z := ⟨_, rfl⟩
    have H1 := hid hz
    clear hf hz
    cases z
    all_goals
      go_enter Try.func46, Try.ntmps46
      go_wp2_with fail
      refine (s_l2Find _ id _ _ _ l _ (H.out.below (by go_grown)) hn).mono ?_
      rintro e w1 ⟨rfl, hb1⟩
      rw [HF.out]
      obtain ⟨hc_w1, hf_w1⟩ := bcell hb1
      have hz_w1_0 : w.heap.size < w1.heap.size := by have := hb1.size; simp only [World.size_alloc] at this; omega
      have HB1 := hid (bstep (by go_grown) hb1 : Below w.heap.size w w1)
      go_wp2_with fail
      refine (s_l2Node _ s _ _ _ l _ (H.out.below HB1.out) hn).mono ?_
      rintro e w2 ⟨rfl, hb2⟩
      rw [H1.out]
      obtain ⟨hc_w2, hf_w2⟩ := bcell hb2
      have hz_w2_0 : w.heap.size < w2.heap.size := by have := hb2.size; omega
      have HB2 := hid (bstep HB1.out hb2 : Below w.heap.size w w2)
      go_wp2
      go_ret2
      exact ⟨_, _, rfl, (OwnI.lit0 _).mono HB2.out.size, bstep HB2.out (by go_grown)⟩
  · have HF := hid hf
    have HI := hid (findQ_id hf)
    cases h1 : goodNet N l && inR s 1 N
    · rw [downR_no (.inl h1)] at hR
      cases hR
      have H1 := hid h1
      clear h1 hf
      go_enter Try.func46, Try.ntmps46
      go_wp2_with fail
      refine (s_l2Find _ id _ _ _ l _ (H.out.below (by go_grown)) hn).mono ?_
      rintro e w1 ⟨rfl, hb1⟩
      rw [HF.out]
      obtain ⟨hc_w1, hf_w1⟩ := bcell hb1
      have hz_w1_0 : w.heap.size < w1.heap.size := by have := hb1.size; simp only [World.size_alloc] at this; omega
      have HB1 := hid (bstep (by go_grown) hb1 : Below w.heap.size w w1)
      go_wp2_with fail
      refine (s_l2Node _ s _ _ _ l _ (H.out.below HB1.out) hn).mono ?_
      rintro e w2 ⟨rfl, hb2⟩
      rw [H1.out]
      obtain ⟨hc_w2, hf_w2⟩ := bcell hb2
      have hz_w2_0 : w.heap.size < w2.heap.size := by have := hb2.size; omega
      have HB2 := hid (bstep HB1.out hb2 : Below w.heap.size w w2)
      go_wp2
      go_ret2
      exact ⟨_, _, rfl, (OwnI.lit0 _).mono HB2.out.size, bstep HB2.out (by go_grown)⟩
    · obtain ⟨hg, hs⟩ := (Bool.and_eq_true _ _).mp h1
      have hN := (goodNet_get hg).1
      obtain ⟨M, rfl⟩ : ∃ M : Nat, N = M := ⟨N.toNat, by omega⟩
      have H1 := hid h1
      have HG := hid hg
      have HS := hid (inR_iff.1 hs)
      have hM : M ≤ 8 := by omega
      clear h1 hs hN
      cases h3 : treeB M l
      · rw [downR_no (.inr (.inr h3))] at hR
        cases hR
        have H3 := hid h3
        clear h3 hf hg
        go_enter Try.func46, Try.ntmps46
        go_wp2_with fail
        refine (s_l2Find _ id _ _ _ l _ (H.out.below (by go_grown)) hn).mono ?_
        rintro e w1 ⟨rfl, hb1⟩
        rw [HF.out]
        obtain ⟨hc_w1, hf_w1⟩ := bcell hb1
        have hz_w1_0 : w.heap.size < w1.heap.size := by have := hb1.size; simp only [World.size_alloc] at this; omega
        have HB1 := hid (bstep (by go_grown) hb1 : Below w.heap.size w w1)
        go_wp2_with fail
        refine (s_l2Node _ s _ _ _ l _ (H.out.below HB1.out) hn).mono ?_
        rintro e w2 ⟨rfl, hb2⟩
        rw [H1.out]
        obtain ⟨hc_w2, hf_w2⟩ := bcell hb2
        have hz_w2_0 : w.heap.size < w2.heap.size := by have := hb2.size; omega
        have HB2 := hid (bstep HB1.out hb2 : Below w.heap.size w w2)
        go_wp2_with fail
        refine (s_l8Tree M _ _ _ l _ (H.out.below HB2.out) HG.out).mono ?_
        rintro e w3 ⟨rfl, hb3⟩
        rw [H3.out]
        obtain ⟨hc_w3, hf_w3⟩ := bcell hb3
        have hz_w3_0 : w.heap.size < w3.heap.size := by have := hb3.size; omega
        have HB3 := hid (bstep HB2.out hb3 : Below w.heap.size w w3)
        go_wp2
        go_ret2
        exact ⟨_, _, rfl, (OwnI.lit0 _).mono HB3.out.size, bstep HB3.out (by go_grown)⟩
      · have e0 : downR M l s id = (neg (distL M l id s) (M + 1), true) := by
          unfold downR
          rw [if_pos ⟨H1.out, by omega, h3⟩]
          simp
        rw [e0, ← HI.out] at hR
        cases hR
        have H3 := hid h3
        clear h3 hf hg e0
        go_enter Try.func46, Try.ntmps46
        go_wp2_with fail
        refine (s_l2Find _ id _ _ _ l _ (H.out.below (by go_grown)) hn).mono ?_
        rintro e w1 ⟨rfl, hb1⟩
        rw [HF.out]
        obtain ⟨hc_w1, hf_w1⟩ := bcell hb1
        have hz_w1_0 : w.heap.size < w1.heap.size := by have := hb1.size; simp only [World.size_alloc] at this; omega
        have HB1 := hid (bstep (by go_grown) hb1 : Below w.heap.size w w1)
        go_wp2_with fail
        refine (s_l2Node _ s _ _ _ l _ (H.out.below HB1.out) hn).mono ?_
        rintro e w2 ⟨rfl, hb2⟩
        rw [H1.out]
        obtain ⟨hc_w2, hf_w2⟩ := bcell hb2
        have hz_w2_0 : w.heap.size < w2.heap.size := by have := hb2.size; omega
        have HB2 := hid (bstep HB1.out hb2 : Below w.heap.size w w2)
        go_wp2_with fail
        refine (s_l8Tree M _ _ _ l _ (H.out.below HB2.out) HG.out).mono ?_
        rintro e w3 ⟨rfl, hb3⟩
        rw [H3.out]
        obtain ⟨hc_w3, hf_w3⟩ := bcell hb3
        have hz_w3_0 : w.heap.size < w3.heap.size := by have := hb3.size; omega
        have HB3 := hid (bstep HB2.out hb3 : Below w.heap.size w w3)
        go_wp2_with fail
        refine (s_l8Down M s k _ _ _ l _ (H.out.below HB3.out) HG.out hc (by omega) HS.out).mono ?_
        rintro e w4 ⟨a4, c4, rfl, ho4, hb4⟩
        have HO := hid ho4
        have HB4 := hid (bstep HB3.out hb4)
        clear ho4 hb4
        go_wp2
        go_ret2
        exact ⟨_, _, rfl, HO.out.mono HB3.out.size, HB4.out⟩

end Go.Proofs.Ytheaagbffphdmaa
