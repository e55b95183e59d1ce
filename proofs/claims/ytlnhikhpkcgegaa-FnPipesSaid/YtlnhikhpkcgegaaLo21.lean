/-
  Texts of this claim, joined: DownApi, NetH2, RevQ, SpanR, SpanT, SpanApi.
-/
import Derived.Test.YtlnhikhpkcgegaaLo6
import Derived.Test.YtlnhikhpkcgegaaLo8
import Derived.Test.YtlnhikhpkcgegaaLo9
import Derived.Test.YtlnhikhpkcgegaaLo10
import Derived.Test.YtlnhikhpkcgegaaLo12
import Derived.Test.YtlnhikhpkcgegaaLo13
import Derived.Test.YtlnhikhpkcgegaaLo20
/-
  DownstreamNodes, in the program and in the reference.
-/
set_option linter.unusedVariables false
set_option linter.unusedSimpArgs false
namespace Go.Proofs.Ytlnhikhpkcgegaa
open Go.RowKit

theorem findQ_id {l : List Pip} {id : Int} {k : Nat} (h : findQ l id = k) : (pp l k).1 = id := by
  unfold findQ at h
  split at h
  · rename_i i hi
    obtain rfl : i = k := by omega
    rw [List.findIdx?_eq_some_iff_getElem] at hi
    obtain ⟨h1, h2, -⟩ := hi
    rw [pp_get h1]
    simpa using h2
  · omega

theorem i_hasPipe (N x : Int) (a : Option Addr) (n c : Nat) (l : List Pip) (w : World) (h : QAt w a n l) (hn : n ≤ 1048576) :
    Calls Try.prog 78 #[.agg #[.int .i64 N, .slice a n c], .int .i64 x] w fun e w' => e = .returned (.bool (goodNet N l && decide (0 ≤ findQ l x))) ∧ Below w.heap.size w w' := by
  have H := hid h
  clear h
  cases h1 : goodNet N l
  · have HG := hid h1
    clear h1
    go_enter Try.func78, Try.ntmps78
    go_wp2_with fail
    refine (i_IsValidNetwork N _ _ _ l _ (H.out.below (by go_grown)) (by omega)).mono ?_
    rintro e w1 ⟨rfl, hb1⟩
    rw [HG.out]
    obtain ⟨hc_w1, hf_w1⟩ := bcell hb1
    have hz_w1_0 : w.heap.size < w1.heap.size := by have := hb1.size; simp only [World.size_alloc] at this; omega
    have HB1 := hid (bstep (by go_grown) hb1 : Below w.heap.size w w1)
    go_wp2
    go_ret
    exact ⟨rfl, HB1.out⟩
  · have HG := hid h1
    clear h1
    go_enter Try.func78, Try.ntmps78
    go_wp2_with fail
    refine (i_IsValidNetwork N _ _ _ l _ (H.out.below (by go_grown)) (by omega)).mono ?_
    rintro e w1 ⟨rfl, hb1⟩
    rw [HG.out]
    obtain ⟨hc_w1, hf_w1⟩ := bcell hb1
    have hz_w1_0 : w.heap.size < w1.heap.size := by have := hb1.size; simp only [World.size_alloc] at this; omega
    have HB1 := hid (bstep (by go_grown) hb1 : Below w.heap.size w w1)
    go_wp2_with fail
    refine (i_pipeIndex N x _ _ _ l _ (H.out.below HB1.out) hn).mono ?_
    rintro e w2 ⟨rfl, hb2⟩
    go_wp2
    go_ret
    exact ⟨rfl, bstep HB1.out hb2⟩

/-- What DownstreamNodes returns. -/
noncomputable def downR (N : Int) (l : List Pip) (s id : Int) : List Int × Bool := if (goodNet N l && inR s 1 N) = true ∧ 0 ≤ findQ l id ∧ treeB N l = true then (neg (distL N l id s) (N.toNat + 1), true) else ([], false)
theorem downR_no {N : Int} {l : List Pip} {s id : Int} (h : (goodNet N l && inR s 1 N) = false ∨ findQ l id = -1 ∨ treeB N l = false) : downR N l s id = ([], false) := by
  unfold downR
  rw [if_neg]
  rintro ⟨h1, h2, h3⟩
  rcases h with h | h | h
  · rw [h] at h1; cases h1
  · omega
  · rw [h] at h3; cases h3

theorem downR_len {N : Int} {l : List Pip} {s id : Int} {R : List Int} {b : Bool} (h : downR N l s id = (R, b)) : R.length ≤ 1000 := by
  unfold downR at h
  split at h
  · rename_i h1
    cases h
    have hN := (goodNet_get ((Bool.and_eq_true _ _).mp h1.1).1).1
    have := neg_len (distL N l id s) (N.toNat + 1)
    omega
  · cases h
    simp

set_option maxRecDepth 100000 in
set_option maxHeartbeats 2000000 in
theorem i_DownstreamNodes (N s id : Int) (a : Option Addr) (n c : Nat) (l : List Pip) (w : World) (h : QAt w a n l) (hn : n ≤ 1048576) (R : List Int) (b : Bool) (hR : downR N l s id = (R, b)) :
    Calls Try.prog 16 #[.agg #[.int .i64 N, .slice a n c], .int .i64 s, .int .i64 id] w fun e w' => ∃ a' c', e = .returned (.tuple #[.slice a' R.length c', .bool b]) ∧ OwnI w' w.heap.size (.slice a' R.length c') R ∧ Below w.heap.size w w' := by
  have H := hid h
  clear h
  cases h1 : goodNet N l && inR s 1 N
  · rw [downR_no (.inl h1)] at hR
    cases hR
    have H1 := hid h1
    clear h1
    go_enter Try.func16, Try.ntmps16
    go_wp2_with fail
    refine (i_hasNode _ s _ _ _ l _ (H.out.below (by go_grown)) hn).mono ?_
    rintro e w1 ⟨rfl, hb1⟩
    rw [H1.out]
    obtain ⟨hc_w1, hf_w1⟩ := bcell hb1
    have hz_w1_0 : w.heap.size < w1.heap.size := by have := hb1.size; simp only [World.size_alloc] at this; omega
    have HB1 := hid (bstep (by go_grown) hb1 : Below w.heap.size w w1)
    go_wp2
    go_ret2
    exact ⟨_, _, rfl, OwnI.nil _ _, HB1.out⟩
  · obtain ⟨hg, hs⟩ := (Bool.and_eq_true _ _).mp h1
    have hN := (goodNet_get hg).1
    obtain ⟨M, rfl⟩ : ∃ M : Nat, N = M := ⟨N.toNat, by omega⟩
    have H1 := hid h1
    have HG := hid hg
    have HS := hid (inR_iff.1 hs)
    have hM : M ≤ 8 := by omega
    clear h1 hs hN
    rcases findQ_cases l id with hf | ⟨k, hk, hf⟩
    · rw [downR_no (.inr (.inl hf))] at hR
      cases hR
      have H2 := hid (show (goodNet M l && decide (0 ≤ findQ l id)) = false by rw [hf]; simp)
      clear hf hg
      go_enter Try.func16, Try.ntmps16
      go_wp2_with fail
      refine (i_hasNode _ s _ _ _ l _ (H.out.below (by go_grown)) hn).mono ?_
      rintro e w1 ⟨rfl, hb1⟩
      rw [H1.out]
      obtain ⟨hc_w1, hf_w1⟩ := bcell hb1
      have hz_w1_0 : w.heap.size < w1.heap.size := by have := hb1.size; simp only [World.size_alloc] at this; omega
      have HB1 := hid (bstep (by go_grown) hb1 : Below w.heap.size w w1)
      go_wp2_with fail
      refine (i_hasPipe _ id _ _ _ l _ (H.out.below HB1.out) hn).mono ?_
      rintro e w2 ⟨rfl, hb2⟩
      rw [H2.out]
      obtain ⟨hc_w2, hf_w2⟩ := bcell hb2
      have hz_w2_0 : w.heap.size < w2.heap.size := by have := hb2.size; omega
      have HB2 := hid (bstep HB1.out hb2 : Below w.heap.size w w2)
      go_wp2
      go_ret2
      exact ⟨_, _, rfl, OwnI.nil _ _, HB2.out⟩
    · have H2 := hid (show (goodNet M l && decide (0 ≤ findQ l id)) = true by rw [hf, hg]; simp)
      cases h3 : treeB M l
      · rw [downR_no (.inr (.inr h3))] at hR
        cases hR
        have H3 := hid h3
        clear h3 hf hg hk
        go_enter Try.func16, Try.ntmps16
        go_wp2_with fail
        refine (i_hasNode _ s _ _ _ l _ (H.out.below (by go_grown)) hn).mono ?_
        rintro e w1 ⟨rfl, hb1⟩
        rw [H1.out]
        obtain ⟨hc_w1, hf_w1⟩ := bcell hb1
        have hz_w1_0 : w.heap.size < w1.heap.size := by have := hb1.size; simp only [World.size_alloc] at this; omega
        have HB1 := hid (bstep (by go_grown) hb1 : Below w.heap.size w w1)
        go_wp2_with fail
        refine (i_hasPipe _ id _ _ _ l _ (H.out.below HB1.out) hn).mono ?_
        rintro e w2 ⟨rfl, hb2⟩
        rw [H2.out]
        obtain ⟨hc_w2, hf_w2⟩ := bcell hb2
        have hz_w2_0 : w.heap.size < w2.heap.size := by have := hb2.size; omega
        have HB2 := hid (bstep HB1.out hb2 : Below w.heap.size w w2)
        go_wp2_with fail
        refine (i_isTree M _ _ _ l _ (H.out.below HB2.out) HG.out).mono ?_
        rintro e w3 ⟨rfl, hb3⟩
        rw [H3.out]
        obtain ⟨hc_w3, hf_w3⟩ := bcell hb3
        have hz_w3_0 : w.heap.size < w3.heap.size := by have := hb3.size; omega
        have HB3 := hid (bstep HB2.out hb3 : Below w.heap.size w w3)
        go_wp2
        go_ret2
        exact ⟨_, _, rfl, OwnI.nil _ _, HB3.out⟩
      · have e0 : downR M l s id = (neg (distL M l id s) (M + 1), true) := by
          unfold downR
          rw [if_pos ⟨H1.out, by omega, h3⟩]
          simp
        rw [e0] at hR
        cases hR
        obtain ⟨D, hD⟩ : ∃ D, distL M l id s = D := ⟨_, rfl⟩
        rw [hD]
        have HDD := hid hD
        have H3 := hid h3
        clear h3 hf hg hk hD e0
        go_enter Try.func16, Try.ntmps16
        go_wp2_with fail
        refine (i_hasNode _ s _ _ _ l _ (H.out.below (by go_grown)) hn).mono ?_
        rintro e w1 ⟨rfl, hb1⟩
        rw [H1.out]
        obtain ⟨hc_w1, hf_w1⟩ := bcell hb1
        have hz_w1_0 : w.heap.size < w1.heap.size := by have := hb1.size; simp only [World.size_alloc] at this; omega
        have HB1 := hid (bstep (by go_grown) hb1 : Below w.heap.size w w1)
        go_wp2_with fail
        refine (i_hasPipe _ id _ _ _ l _ (H.out.below HB1.out) hn).mono ?_
        rintro e w2 ⟨rfl, hb2⟩
        rw [H2.out]
        obtain ⟨hc_w2, hf_w2⟩ := bcell hb2
        have hz_w2_0 : w.heap.size < w2.heap.size := by have := hb2.size; omega
        have HB2 := hid (bstep HB1.out hb2 : Below w.heap.size w w2)
        go_wp2_with fail
        refine (i_isTree M _ _ _ l _ (H.out.below HB2.out) HG.out).mono ?_
        rintro e w3 ⟨rfl, hb3⟩
        rw [H3.out]
        obtain ⟨hc_w3, hf_w3⟩ := bcell hb3
        have hz_w3_0 : w.heap.size < w3.heap.size := by have := hb3.size; omega
        have HB3 := hid (bstep HB2.out hb3 : Below w.heap.size w w3)
        go_wp2_with fail
        refine (i_distances M s id _ _ _ l _ (H.out.below (bstep HB3.out (by go_grown))) HG.out HS.out).mono ?_
        rintro e w4 ⟨ad, cd, rfl, hod, hb4⟩
        obtain ⟨gd, rfl, hgd1, hgd2⟩ := own_some hod (by omega)
        simp only [World.size_alloc] at hgd1 hod
        rw [HDD.out] at hod
        have HD := hid hod
        have HB4 := hid (bstep HB3.out (bstep (by go_grown) hb4) : Below w.heap.size w w4)
        have HO := hid (show OwnI w4 w.heap.size (.slice (some ⟨w3.heap.size, 0, none⟩) (neg D 0).length 0) (neg D 0) from by
          have := ((OwnI.lit0 w3).below hb4).mono (B' := w.heap.size) HB3.out.size
          simpa [neg] using this)
        have hz4 := HB3.out.size
        clear hod hb4
        go_wp2
        go_loopg [8, 32] (M + 1) (fun g o i wr => ∃ (k : Nat) (a' : Option Addr) (c' : Nat), k ≤ M + 1 ∧ g = M + 1 - k ∧ i = .int .i64 k ∧ o = .slice a' (neg D k).length c' ∧ Hid (OwnI wr w.heap.size (.slice a' (neg D k).length c') (neg D k) ∧ OwnI wr w.heap.size (.slice (some ⟨gd, 0, none⟩) (M + 1) cd) D ∧ Below w.heap.size w wr ∧ Value.ownBlock (.slice a' (neg D k).length c') ≠ some gd))
        case atStart =>
          refine ⟨0, some ⟨w3.heap.size, 0, none⟩, 0, Nat.zero_le _, rfl, rfl, rfl, hid ⟨HO.out, HD.out.mono (by omega), HB4.out, ?_⟩⟩
          simp [Value.ownBlock]
          omega
        case round =>
          obtain ⟨k, a', c', hk, rfl, rfl, rfl, hh⟩ := hrel
          have hlen := neg_len D k
          by_cases hlt : k < M + 1
          · have hcell := hh.out.2.1.cell (k := k) hlt
            have hgw : gd < wr.heap.size := (hh.out.2.1.lt _ rfl).2
            by_cases h0 : 0 < k
            · by_cases hp : D[k]?.getD 0 < 0
              · have E := hid (neg_yes h0 hp)
                go_wp2_with (at_builtin; refine wp_append_ints _ rfl _ _ rfl w.heap.size _ (neg D k) rfl (hh.out.1.alloc _) _ 1 1 [(k : Int)] rfl (IntsAt.single _ _) ((neg D k).length + 1) (by simp) (by omega) (by have := hh.out.2.2.1.size; simp; omega) ?_)
                intro a2 c2 w5 hown hgrow hblk
                have hl2 : (neg D k).length + 1 = (neg D (k + 1)).length := by rw [E.out]; simp
                rw [hl2] at hown hblk ⊢
                have S2 := hid (show OwnI w5 w.heap.size (.slice a2 (neg D (k + 1)).length c2) (neg D (k + 1)) ∧ OwnI w5 w.heap.size (.slice (some ⟨gd, 0, none⟩) (M + 1) cd) D ∧ Below w.heap.size w w5 ∧ Value.ownBlock (.slice a2 (neg D (k + 1)).length c2) ≠ some gd from by
                  refine ⟨by rw [E.out] at hown ⊢; exact hown, (hh.out.2.1.alloc _).kept hgrow (.inr (fun e => hh.out.2.2.2 (by rw [← e]; rfl))), (bstep hh.out.2.2.1 (by go_grown)).grown hgrow (by have := hh.out.2.2.1.size; simp; omega) (fun q hq => (hh.out.1.lt q hq).1), ?_⟩
                  rcases hblk with e | e
                  · rw [e]; exact hh.out.2.2.2
                  · rw [e]; simp; omega)
                clear hown hgrow hblk hl2
                go_wp2
                go_roundg (M + 1 - (k + 1))
                case rel => exact ⟨k + 1, _, _, by omega, rfl, by go_num, rfl, S2⟩
                case measure => omega
              · have E := hid (neg_no (L := D) (k := k) (fun h => hp h.2))
                go_wp2
                go_roundg (M + 1 - (k + 1))
                case rel => exact ⟨k + 1, a', c', by omega, rfl, by go_num, by rw [E.out], hid (by rw [E.out]; exact hh.out)⟩
                case measure => omega
            · have E := hid (neg_no (L := D) (k := k) (fun h => h0 h.1))
              go_wp2
              go_roundg (M + 1 - (k + 1))
              case rel => exact ⟨k + 1, a', c', by omega, rfl, by go_num, by rw [E.out], hid (by rw [E.out]; exact hh.out)⟩
              case measure => omega
          · obtain rfl : k = M + 1 := by omega
            go_wp2
            go_ret2
            exact ⟨_, _, rfl, hh.out.1, hh.out.2.2.1⟩


end Go.Proofs.Ytlnhikhpkcgegaa

/-
  Networks: ImbalanceAt.
-/
set_option linter.unusedVariables false
set_option linter.unusedSimpArgs false
namespace Go.Proofs.Ytlnhikhpkcgegaa
open Go.RowKit

/-- What ImbalanceAt returns. -/
def imbR (N : Int) (l : List Pip) (s : Int) (ds fs : List Int) (x : Int) : Int × Bool := if asks N l s ds fs = true ∧ inR x 1 N = true then (imb l ds fs s x, true) else (0, false)

set_option maxHeartbeats 1000000 in
theorem i_ImbalanceAt (N s x : Int) (a p q : Option Addr) (n c m d r e0 : Nat) (l : List Pip) (ds fs : List Int) (w : World) (h : QAt w a n l) (h' : IntsAt w p m ds) (h'' : IntsAt w q r fs) (hn : n ≤ 1048576) (hm : m ≤ 1048576) (hr : r ≤ 1048576) (y : Int) (z : Bool) (hR : imbR N l s ds fs x = (y, z)) :
    Calls Try.prog 20 #[.agg #[.int .i64 N, .slice a n c], .int .i64 s, .slice p m d, .slice q r e0, .int .i64 x] w fun e w' => e = .returned (.tuple #[.int .i64 y, .bool z]) ∧ Below w.heap.size w w' := by
  have hl := h.1
  have H := hid h
  have H' := hid h'
  have H'' := hid h''
  clear h h' h''
  cases h1 : asks N l s ds fs
  · have H1 := hid h1
    have e1 : imbR N l s ds fs x = (0, false) := by simp [imbR, h1]
    rw [e1] at hR
    cases hR
    clear h1 hl e1
    go_enter Try.func20, Try.ntmps20
    go_wp2_with fail
    refine (i_canFlow N s _ _ _ _ _ _ _ _ _ l ds fs _ (H.out.below (by go_grown)) (H'.out.below (by go_grown)) (H''.out.below (by go_grown)) hn hm (by omega)).mono ?_
    rintro e w1 ⟨rfl, hb1⟩
    rw [H1.out]
    obtain ⟨hc_w1, hf_w1⟩ := bcell hb1
    have hz_w1_0 : w.heap.size < w1.heap.size := by have := hb1.size; simp only [World.size_alloc] at this; omega
    have HB1 := hid (bstep (by go_grown) hb1 : Below w.heap.size w w1)
    go_wp2
    go_ret2
    exact ⟨rfl, HB1.out⟩
  · have H1 := hid h1
    obtain ⟨g1, g2, g3, g4⟩ := asks_iff h1
    rw [hl] at g4
    have hrn : r = n := by have := (goodFl_iff.1 g4).1; have := H''.out.1; omega
    subst hrn
    have G1 := hid g1
    have G3 := hid g3
    have G4 := hid g4
    cases h2 : inR x 1 N
    · have H2 : Hid ((goodNet N l && inR x 1 N) = false) := hid (by simp [h2])
      have H3 := hid h2
      have e1 : imbR N l s ds fs x = (0, false) := by simp [imbR, h2]
      rw [e1] at hR
      cases hR
      clear h1 h2 hl e1 g1 g2 g3 g4
      go_enter Try.func20, Try.ntmps20
      go_wp2_with fail
      refine (i_canFlow N s _ _ _ _ _ _ _ _ _ l ds fs _ (H.out.below (by go_grown)) (H'.out.below (by go_grown)) (H''.out.below (by go_grown)) hn hm (by omega)).mono ?_
      rintro e w1 ⟨rfl, hb1⟩
      rw [H1.out]
      obtain ⟨hc_w1, hf_w1⟩ := bcell hb1
      have hz_w1_0 : w.heap.size < w1.heap.size := by have := hb1.size; simp only [World.size_alloc] at this; omega
      have HB1 := hid (bstep (by go_grown) hb1 : Below w.heap.size w w1)
      go_wp2_with fail
      refine (i_has N x _ _ _ _).mono ?_
      rintro e w2 ⟨rfl, hb2⟩
      rw [H3.out]
      go_wp2
      go_ret2
      exact ⟨rfl, bstep HB1.out hb2⟩
    · have H2 : Hid ((goodNet N l && inR x 1 N) = true) := hid (by simp [h2, g1])
      have H3 := hid h2
      have hx := inR_iff.1 h2
      have e1 : imbR N l s ds fs x = (imb l ds fs s x, true) := by simp [imbR, h1, h2]
      rw [e1] at hR
      cases hR
      clear h1 h2 hl e1 g1 g2 g3 g4
      go_enter Try.func20, Try.ntmps20
      go_wp2_with fail
      refine (i_canFlow N s _ _ _ _ _ _ _ _ _ l ds fs _ (H.out.below (by go_grown)) (H'.out.below (by go_grown)) (H''.out.below (by go_grown)) hn hm (by omega)).mono ?_
      rintro e w1 ⟨rfl, hb1⟩
      rw [H1.out]
      obtain ⟨hc_w1, hf_w1⟩ := bcell hb1
      have hz_w1_0 : w.heap.size < w1.heap.size := by have := hb1.size; simp only [World.size_alloc] at this; omega
      have HB1 := hid (bstep (by go_grown) hb1 : Below w.heap.size w w1)
      go_wp2_with fail
      refine (i_has N x _ _ _ _).mono ?_
      rintro e w2 ⟨rfl, hb2⟩
      rw [H3.out]
      obtain ⟨hc_w2, hf_w2⟩ := bcell hb2
      have hz_w2_0 : w.heap.size < w2.heap.size := by have := hb2.size; omega
      have HB2 := hid (bstep HB1.out hb2)
      go_wp2_with fail
      refine (i_imbalanceAt N s x _ _ _ _ _ _ _ _ l ds fs _ (H.out.below HB2.out) (H'.out.below HB2.out) (H''.out.below HB2.out) G1.out G3.out G4.out hx).mono ?_
      rintro e w3 ⟨rfl, hb3⟩
      go_wp2
      go_ret2
      exact ⟨rfl, bstep HB2.out hb3⟩

end Go.Proofs.Ytlnhikhpkcgegaa

/-
  A pipe reversed twice, and the balances with a reversed pipe (plain).
-/
set_option linter.unusedVariables false
set_option linter.unusedSimpArgs false
namespace Go.Proofs.Ytlnhikhpkcgegaa
open Go.RowKit

theorem flip_flip (p : Pip) : flipQ (flipQ p) = p := rfl
theorem mem_set {α : Type} {l : List α} {k : Nat} {x y : α} (h : y ∈ l.set k x) : y = x ∨ y ∈ l := by
  rcases List.mem_or_eq_of_mem_set h with h | h
  · exact .inr h
  · exact .inl h
theorem pp_set_ne {l : List Pip} {k j : Nat} {x : Pip} (h : j ≠ k) : pp (l.set k x) j = pp l j := by
  unfold pp
  rw [List.getElem?_set_ne (fun e => h e.symm)]
theorem pp_set_self {l : List Pip} {k : Nat} {x : Pip} (h : k < l.length) : pp (l.set k x) k = x := by
  unfold pp
  simp [h]
theorem good_flip {N : Int} {l : List Pip} {k : Nat} (hg : goodNet N l = true) (hk : k < l.length) : goodNet N (l.set k (flipQ (pp l k))) = true := by
  obtain ⟨h1, h2, h3, h4⟩ := goodNet_iff.1 hg
  refine goodNet_iff.2 ⟨h1, by simpa using h2, fun p hp => ?_, ?_⟩
  · rcases mem_set hp with rfl | hp
    · have := h3 _ (pp_mem hk)
      unfold okPipe flipQ at *
      simp only [Bool.and_eq_true, decide_eq_true_eq, Bool.not_eq_true', decide_eq_false_iff_not, inR_iff] at this ⊢
      omega
    · exact h3 p hp
  · rw [List.pairwise_iff_getElem] at h4 ⊢
    intro i j hi hj hij
    have e : ∀ i (hi : i < (l.set k (flipQ (pp l k))).length), (l.set k (flipQ (pp l k)))[i].1 = (l[i]'(by simpa using hi)).1 := by
      intro i hi
      rw [List.getElem_set]
      split
      · rename_i c
        subst c
        have e2 : (pp l k).1 = l[k].1 := by rw [pp_get hk]
        exact e2
      · rfl
    rw [e i hi, e j hj]
    exact h4 i j _ _ hij
theorem inflow_flip {N : Int} {l : List Pip} {fs : List Int} {k : Nat} (hg : goodNet N l = true) (hk : k < l.length) (hl : fs.length = l.length) (x : Int) (j : Nat) : inflow (l.set k (flipQ (pp l k))) (fs.set k (-(fs[k]?.getD 0))) x j = inflow l fs x j := by
  unfold inflow
  by_cases e : j = k
  · subst e
    have hne := (goodNet_pipe hg hk).2.2.2.1
    rw [pp_set_self hk, List.getElem?_set_self (by omega)]
    unfold flipQ
    simp only [Option.getD_some]
    split <;> split <;> first | omega | (rename_i a b; exact absurd (b.symm.trans a) (by omega)) | skip
  · rw [pp_set_ne e, List.getElem?_set_ne (fun c => e c.symm)]
theorem net_flip {N : Int} {l : List Pip} {fs : List Int} {k : Nat} (hg : goodNet N l = true) (hk : k < l.length) (hl : fs.length = l.length) (x : Int) : ∀ n, net (l.set k (flipQ (pp l k))) (fs.set k (-(fs[k]?.getD 0))) x n = net l fs x n
  | 0 => rfl
  | n + 1 => by rw [net_succ, net_succ, net_flip hg hk hl x n, inflow_flip hg hk hl]
/-- The answers on a reversed pipe. -/
theorem rev_yes {N q X : Int} {l R : List Pip} {fs S : List Int} (h : revR N l fs q = (X, R, S, true)) :
    X = N ∧ revR N R S q = (N, l, fs, true) ∧ R.length = l.length ∧ S.length = fs.length ∧ (1 ≤ N ∧ N ≤ 8) ∧
      ∀ k : Nat, k < N.toNat → ∃ y, imbR N l 1 (List.replicate N.toNat 0) fs ((k : Int) + 1) = (y, true) ∧ imbR N R 1 (List.replicate N.toNat 0) S ((k : Int) + 1) = (y, true) := by
  unfold revR at h
  split at h
  · rename_i h1
    obtain ⟨hg, hf, h3⟩ := h1
    obtain ⟨k, hk, hq⟩ : ∃ k : Nat, k < l.length ∧ findQ l q = k := by
      rcases findQ_cases l q with e | e
      · omega
      · exact e
    rw [hq, Int.toNat_natCast] at h
    simp only [Prod.mk.injEq, and_true] at h
    obtain ⟨rfl, rfl, rfl⟩ := h
    have hN := (goodNet_get hg).1
    obtain ⟨hl, hfb⟩ := goodFl_iff.1 hf
    have hg' := good_flip hg hk
    have hf' : goodFl (l.set k (flipQ (pp l k))).length (fs.set k (-(fs[k]?.getD 0))) = true := by
      refine goodFl_iff.2 ⟨by simpa using hl, fun x hx => ?_⟩
      rcases mem_set hx with rfl | hx
      · have := hfb _ (getD_mem' (l := fs) (k := k) (by omega))
        omega
      · exact hfb x hx
    have hq' : findQ (l.set k (flipQ (pp l k))) q = k := by
      have h5 := findQ_at (k := k) hg' (by simpa using hk)
      rw [pp_set_self hk] at h5
      rw [← findQ_id hq]
      exact h5
    have hz : goodDem N (List.replicate N.toNat 0) = true := goodDem_iff.2 ⟨by simp; omega, fun x hx => by rw [List.mem_replicate] at hx; omega⟩
    refine ⟨rfl, ?_, by simp, by simp, hN, fun j hj => ?_⟩
    · unfold revR
      rw [if_pos ⟨hg', hf', by omega⟩, hq', Int.toNat_natCast, pp_set_self hk, flip_flip, List.set_set, List.set_set, List.getElem?_set_self (by omega), Option.getD_some, Int.neg_neg]
      congr 1
      congr 1
      · rw [pp_get hk]; exact List.set_getElem_self hk
      · congr 1
        rw [List.getElem?_eq_getElem (by omega), Option.getD_some]
        exact List.set_getElem_self (by omega)
    · refine ⟨imb l (List.replicate N.toNat 0) fs 1 ((j : Int) + 1), ?_, ?_⟩
      · unfold imbR
        rw [if_pos]
        refine ⟨?_, inR_iff.2 (by omega)⟩
        unfold asks
        rw [hg, inR_iff.2 (by omega), hz, hf]
        rfl
      · unfold imbR
        rw [if_pos]
        · congr 1
          unfold imb
          rw [List.length_set, net_flip hg hk hl]
        · refine ⟨?_, inR_iff.2 (by omega)⟩
          unfold asks
          rw [hg', inR_iff.2 (by omega), hz, hf']
          rfl
  · cases h

end Go.Proofs.Ytlnhikhpkcgegaa

/-
  What SpanningTree returns.
-/
set_option linter.unusedVariables false
set_option linter.unusedSimpArgs false
namespace Go.Proofs.Ytlnhikhpkcgegaa
open Go.RowKit

/-- What SpanningTree returns. -/
noncomputable def spanR (N : Int) (l : List Pip) : Int × List Pip × Bool := if goodNet N l = true ∧ ((reachL N l 0 1).length : Int) = N then (N, span l l.length, true) else (0, [], false)
theorem spanR_no {N : Int} {l : List Pip} (h : goodNet N l = false ∨ ¬ ((reachL N l 0 1).length : Int) = N) : spanR N l = (0, [], false) := by
  unfold spanR
  rw [if_neg]
  rintro ⟨h1, h2⟩
  rcases h with h | h
  · rw [h] at h1; cases h1
  · exact h h2
theorem spanR_len {N : Int} {l R : List Pip} {X : Int} {b : Bool} (h : spanR N l = (X, R, b)) : R.length ≤ 1000 := by
  unfold spanR at h
  split at h
  · rename_i h1
    cases h
    have := (goodNet_get h1.1).2.1
    have := span_len l (Nat.le_refl l.length)
    omega
  · cases h
    simp

end Go.Proofs.Ytlnhikhpkcgegaa

/-
  A spanning tree is a tree (plain).
-/
set_option linter.unusedVariables false
set_option linter.unusedSimpArgs false
namespace Go.Proofs.Ytlnhikhpkcgegaa
open Go.RowKit

theorem way_via {l m : List Pip} {s : Int} (h : ∀ u v, Edge l 0 u v → Conn m u v) : ∀ (n : Nat) (v : Int), Way l 0 s n v → Conn m s v
  | 0, v, hw => by
    obtain rfl : v = s := hw
    exact conn_iff.2 ⟨0, rfl⟩
  | n + 1, v, ⟨u, hu, he⟩ => (way_via h n u hu).trans (h u v he)
theorem conn_via {l m : List Pip} (h : ∀ u v, Edge l 0 u v → Conn m u v) {u v : Int} (hc : Conn l u v) : Conn m u v := by
  obtain ⟨n, hn⟩ := conn_iff.1 hc
  exact way_via h n v hn
theorem conn_edge {l : List Pip} {u v : Int} (h : Edge l 0 u v) : Conn l u v := conn_iff.2 ⟨1, u, rfl, h⟩
theorem conn_sub {l m : List Pip} (h : ∀ p ∈ l, p ∈ m) {u v : Int} (hc : Conn l u v) : Conn m u v := by
  refine conn_via (fun u v he => conn_edge ?_) hc
  obtain ⟨p, h1, h2⟩ := edge_mem.1 he
  exact edge_mem.2 ⟨p, h p h1, h2⟩
/-- The least node of its part. -/
def First (N : Int) (l : List Pip) (v : Int) : Prop := ∀ u : Int, 1 ≤ u → u ≤ N → Conn l v u → v ≤ u
theorem first_iff {N v : Int} {l : List Pip} (hg : goodNet N l = true) (hv : 1 ≤ v ∧ v ≤ N) : (reachL N l 0 v)[0]?.getD 0 = v ↔ First N l v := by
  obtain ⟨h1, h2⟩ := reachL_first (s := v) hg hv
  constructor
  · intro h u u1 u2 hc
    have := h2 u (mem_reachL.2 ⟨⟨u1, u2⟩, hc⟩)
    omega
  · intro h
    obtain ⟨h3, h4⟩ := mem_reachL.1 h1
    have h5 := h _ h3.1 h3.2 h4
    have h6 := h2 v (reachL_ne hg hv)
    omega
theorem cnt_mono {N : Int} {l m : List Pip} (hg : goodNet N l = true) (hg' : goodNet N m = true) (h : ∀ v : Int, First N m v → First N l v) : ∀ k : Nat, (k : Int) ≤ N → cnt N m k ≤ cnt N l k
  | 0, _ => Nat.le_refl _
  | k + 1, hk => by
    have ih := cnt_mono hg hg' h k (by omega)
    unfold cnt
    by_cases c : (reachL N m 0 ((k : Int) + 1))[0]?.getD 0 = (k : Int) + 1
    · rw [if_pos c, if_pos ((first_iff hg (by omega)).2 (h _ ((first_iff hg' (by omega)).1 c)))]
      omega
    · rw [if_neg c]
      split <;> omega
theorem cnt_less {N : Int} {l m : List Pip} (hg : goodNet N l = true) (hg' : goodNet N m = true) (h : ∀ v : Int, First N m v → First N l v) {v0 : Int} (h0 : 1 ≤ v0) (hf : First N l v0) (hn : ¬ First N m v0) : ∀ k : Nat, v0 ≤ k → (k : Int) ≤ N → cnt N m k + 1 ≤ cnt N l k
  | 0, h1, _ => by omega
  | k + 1, h1, hk => by
    have h3 := cnt_mono hg hg' h k (by omega)
    unfold cnt
    by_cases e : v0 = (k : Int) + 1
    · subst e
      rw [if_neg (fun c => hn ((first_iff hg' (by omega)).1 c)), if_pos ((first_iff hg (by omega)).2 hf)]
      omega
    · have ih := cnt_less hg hg' h h0 hf hn k (by omega) (by omega)
      by_cases c : (reachL N m 0 ((k : Int) + 1))[0]?.getD 0 = (k : Int) + 1
      · rw [if_pos c, if_pos ((first_iff hg (by omega)).2 (h _ ((first_iff hg' (by omega)).1 c)))]
        omega
      · rw [if_neg c]
        split <;> omega
/-- The least node of the part of a node. -/
theorem first_of {N v : Int} {l : List Pip} (hg : goodNet N l = true) (hv : 1 ≤ v ∧ v ≤ N) : ∃ r : Int, (1 ≤ r ∧ r ≤ N) ∧ Conn l v r ∧ First N l r := by
  obtain ⟨h1, h2⟩ := reachL_first (s := v) hg hv
  obtain ⟨h3, h4⟩ := mem_reachL.1 h1
  exact ⟨_, h3, h4, fun u u1 u2 hc => h2 u (mem_reachL.2 ⟨⟨u1, u2⟩, Conn.trans h4 hc⟩)⟩
theorem cnt_join {N : Int} {m : List Pip} {p : Pip} (hg : goodNet N m = true) (hg' : goodNet N (m ++ [p]) = true) (hn : ¬ Conn m p.2.1 p.2.2.1) : cnt N (m ++ [p]) N.toNat + 1 ≤ cnt N m N.toNat := by
  have hN := (goodNet_get hg).1
  have hk : m.length < (m ++ [p]).length := by simp
  have hp : pp (m ++ [p]) m.length = p := by simp [pp]
  obtain ⟨-, p1, p2, hne, -⟩ := goodNet_pipe hg' hk
  rw [hp] at p1 p2 hne
  have hed := (pipe_edge hg' hk).1
  rw [hp] at hed
  have hsub : ∀ v : Int, First N (m ++ [p]) v → First N m v := fun v h u u1 u2 hc => h u u1 u2 (conn_sub (fun q hq => by simp [hq]) hc)
  obtain ⟨r, hr1, hr2, hr3⟩ := first_of hg p1
  obtain ⟨t, ht1, ht2, ht3⟩ := first_of hg p2
  have hrt : Conn (m ++ [p]) r t := ((conn_sub (fun q hq => by simp [hq]) hr2).symm hg').trans ((conn_edge hed).trans (conn_sub (fun q hq => by simp [hq]) ht2))
  have hne2 : r ≠ t := fun e => hn (hr2.trans (by rw [e]; exact ht2.symm hg))
  by_cases c : r < t
  · exact cnt_less hg hg' hsub ht1.1 ht3 (fun h => by have := h r hr1.1 hr1.2 (hrt.symm hg'); omega) _ (by omega) (by omega)
  · exact cnt_less hg hg' hsub hr1.1 hr3 (fun h => by have := h t ht1.1 ht1.2 hrt; omega) _ (by omega) (by omega)
theorem span_cnt {N : Int} {l : List Pip} (hg : goodNet N l = true) : ∀ k, k ≤ l.length → cnt N (span l k) N.toNat + (span l k).length ≤ N.toNat
  | 0, _ => by
    have := cnt_le N (span l 0) N.toNat
    have e : (span l 0).length = 0 := by have := span_len l (k := 0) (by omega); omega
    omega
  | k + 1, hk => by
    have ih := span_cnt hg k (by omega)
    by_cases c : 0 ≤ far (span l k) 0 (pp l k).2.1 (pp l k).2.2.1
    · rw [span_yes c]; exact ih
    · have h1 := span_good hg (k := k) (by omega)
      have h2 := span_good hg (k := k + 1) hk
      rw [span_no c] at h2 ⊢
      have := cnt_join h1 h2 c
      rw [List.length_append, List.length_singleton]
      omega
theorem span_conn {N : Int} {l : List Pip} (hg : goodNet N l = true) : ∀ k, k ≤ l.length → ∀ j, j < k → Conn (span l k) (pp l j).2.1 (pp l j).2.2.1
  | 0, _, j, h => by omega
  | k + 1, hk, j, hj => by
    by_cases c : 0 ≤ far (span l k) 0 (pp l k).2.1 (pp l k).2.2.1
    · rw [span_yes c]
      by_cases e : j = k
      · subst e; exact c
      · exact span_conn hg k (by omega) j (by omega)
    · have h2 := span_good hg (k := k + 1) hk
      rw [span_no c] at h2 ⊢
      by_cases e : j = k
      · subst e
        have hkk : (span l j).length < (span l j ++ [pp l j]).length := by simp
        have hp : pp (span l j ++ [pp l j]) (span l j).length = pp l j := by simp [pp]
        have hed := (pipe_edge h2 hkk).1
        rw [hp] at hed
        exact conn_edge hed
      · exact conn_sub (fun q hq => by simp [hq]) (span_conn hg k (by omega) j (by omega))
/-- A spanning tree is a tree. -/
theorem span_tree {N X : Int} {l R : List Pip} (h : spanR N l = (X, R, true)) : X = N ∧ treeR N R = (true, true) ∧ goodNet N R = true := by
  unfold spanR at h
  split at h
  · rename_i h1
    obtain ⟨hg, hall⟩ := h1
    simp only [Prod.mk.injEq, and_true] at h
    obtain ⟨rfl, rfl⟩ := h
    have hN := (goodNet_get hg).1
    have hg' := span_good hg (k := l.length) (Nat.le_refl _)
    have hc1 := (reachL_all (s := 1) (by omega)).1 hall
    have hcl : ∀ u v : Int, 1 ≤ u → u ≤ N → 1 ≤ v → v ≤ N → Conn (span l l.length) u v := by
      intro u v u1 u2 v1 v2
      have h2 : Conn l u v := ((hc1 u u1 u2).symm hg).trans (hc1 v v1 v2)
      refine conn_via (fun x y he => ?_) h2
      obtain ⟨k, hk, -, ho, hy⟩ := he
      have h3 := span_conn hg l.length (Nat.le_refl _) k hk
      rcases oth_ends ho hy with ⟨a, b⟩ | ⟨a, b⟩
      · rw [a, b]; exact h3
      · rw [a, b]; exact h3.symm hg'
    have h4 := span_cnt hg l.length (Nat.le_refl _)
    have h5 := (cnt_one hg' N.toNat (by omega) (by omega)).1
    have h6 := reach_count (s := 1) hg'
    have h7 := (reachL_all (s := 1) (l := span l l.length) (by omega : 0 ≤ N)).2 (fun v v1 v2 => hcl 1 v (by omega) (by omega) v1 v2)
    refine ⟨rfl, ?_, hg'⟩
    unfold treeR
    rw [if_pos hg', (treeB_iff hg').2 ⟨by omega, hcl⟩]
  · cases h

end Go.Proofs.Ytlnhikhpkcgegaa

/-
  SpanningTree, in the program.
-/
set_option linter.unusedVariables false
set_option linter.unusedSimpArgs false
namespace Go.Proofs.Ytlnhikhpkcgegaa
open Go.RowKit

set_option maxRecDepth 100000 in
set_option maxHeartbeats 4000000 in
theorem i_SpanningTree (N : Int) (a : Option Addr) (n c : Nat) (l : List Pip) (w : World) (h : QAt w a n l) (hn : n ≤ 1048576) (x : Int) (R : List Pip) (b : Bool) (hR : spanR N l = (x, R, b)) :
    Calls Try.prog 26 #[.agg #[.int .i64 N, .slice a n c]] w fun e w' => ∃ a' m c', e = .returned (.tuple #[.agg #[.int .i64 x, .slice a' m c'], .bool b]) ∧ OwnQ w' w.heap.size (.slice a' m c') R ∧ Below w.heap.size w w' := by
  have H := hid h
  have hl := h.1
  clear h
  cases h1 : goodNet N l
  · rw [spanR_no (.inl h1)] at hR
    cases hR
    have HG := hid h1
    clear h1 hl
    go_enter Try.func26, Try.ntmps26
    go_wp2_with fail
    refine (i_IsValidNetwork N _ _ _ l _ (H.out.below (by go_grown)) (by omega)).mono ?_
    rintro e w1 ⟨rfl, hb1⟩
    rw [HG.out]
    obtain ⟨hc_w1, hf_w1⟩ := bcell hb1
    have hz1 := hb1.size
    simp only [World.size_alloc] at hz1
    have hz_w1_0 : w.heap.size < w1.heap.size := by omega
    have hz_w1_1 : w.heap.size + 1 < w1.heap.size := by omega
    have HB1 := hid (bstep (by go_grown) hb1 : Below w.heap.size w w1)
    have T1 := hid ((hb1.block (w.heap.size + 1) (by simp)).trans (last_new (w.alloc _) _ _ (by simp)))
    have A1 := hid ((hb1.block w.heap.size (by simp <;> omega)).trans (mid_new w _ _ _ rfl))
    have y0 := cell_of_row w1 _ 0 _ _ (0, 0) T1.out
    have y1 := cell_of_row w1 _ 1 _ _ (0, 0) T1.out
    simp only [List.getElem?_toArray, List.getElem?_cons_zero, List.getElem?_cons_succ] at y0 y1
    have f0 := frozen_of_row w1 _ 0 _ _ T1.out
    have f1 := frozen_of_row w1 _ 1 _ _ T1.out
    have e7 := heap_setCell_same _ _ 1 _ _ (.slice none 0 0) (heap_setCell_same _ _ 0 _ _ (.int .i64 0) T1.out)
    have u0 := cell_of_row _ _ 0 _ _ (0, 0) e7
    have u1 := cell_of_row _ _ 1 _ _ (0, 0) e7
    simp only [List.setIfInBounds_toArray, List.set_cons_zero, List.set_cons_succ, List.getElem?_toArray, List.getElem?_cons_zero, List.getElem?_cons_succ] at u0 u1
    clear e7
    go_wp2
    refine bodyPost_ret (v := .tuple #[.agg #[.int .i64 0, .slice none 0 0], .bool false]) (by simp [results, Try.results26, go_sem, *]) rfl ⟨_, _, _, rfl, OwnS.nil _ _, ?_⟩
    exact (HB1.out.setCell (by show w.heap.size ≤ w.heap.size + 1; omega) _).setCell (by show w.heap.size ≤ w.heap.size + 1; omega) _
  · have hN := (goodNet_get h1).1
    obtain ⟨M, rfl⟩ : ∃ M : Nat, N = M := ⟨N.toNat, by omega⟩
    have HG := hid h1
    have hM : M ≤ 8 := by omega
    have hn10 : n ≤ 10 := by have := (goodNet_get h1).2.1; omega
    have HLN := hid hl
    have hpo := parts_one' h1
    have hc1 := (cnt_one h1 M (by omega) (by omega)).1
    clear hN
    by_cases hq : cnt M l M = 1
    · have e0 : spanR M l = ((M : Int), span l n, true) := by
        unfold spanR
        rw [if_pos ⟨h1, hpo.1 hq⟩, hl]
      rw [e0] at hR
      cases hR
      have HQ := hid hq
      clear h1 hl hpo hq hc1 e0
      go_enter Try.func26, Try.ntmps26
      go_wp2_with fail
      refine (i_IsValidNetwork M _ _ _ l _ (H.out.below (by go_grown)) (by omega)).mono ?_
      rintro e w1 ⟨rfl, hb1⟩
      rw [HG.out]
      obtain ⟨hc_w1, hf_w1⟩ := bcell hb1
      have hz1 := hb1.size
      simp only [World.size_alloc] at hz1
      have hz_w1_0 : w.heap.size < w1.heap.size := by omega
      have hz_w1_1 : w.heap.size + 1 < w1.heap.size := by omega
      have HB1 := hid (bstep (by go_grown) hb1 : Below w.heap.size w w1)
      have T1 := hid ((hb1.block (w.heap.size + 1) (by simp)).trans (last_new (w.alloc _) _ _ (by simp)))
      have A1 := hid ((hb1.block w.heap.size (by simp <;> omega)).trans (mid_new w _ _ _ rfl))
      clear hb1
      go_wp2_with fail
      refine (i_networkParts M _ _ _ l _ (H.out.below HB1.out) HG.out).mono ?_
      rintro e w2 ⟨a2, c2, rfl, hb2⟩
      rw [HQ.out]
      have hz_w2 := hb2.size
      have hz_w2_0 : w.heap.size < w2.heap.size := by omega
      have hz_w2_1 : w.heap.size + 1 < w2.heap.size := by omega
      have HB2 := hid (bstep HB1.out hb2 : Below w.heap.size w w2)
      have T2 := hid ((hb2.block (w.heap.size + 1) hz_w1_1).trans T1.out)
      have A2 := hid ((hb2.block w.heap.size hz_w1_0).trans A1.out)
      have m0 := cell_of_row w2 _ 0 _ _ (0, 0) A2.out
      have m1 := cell_of_row w2 _ 1 _ _ (0, 0) A2.out
      simp only [List.getElem?_toArray, List.getElem?_cons_zero, List.getElem?_cons_succ] at m0 m1
      clear hc_w1 hf_w1 hb2
      obtain ⟨i0, hi, hz0, hz1', hz2⟩ := info_parts Try.infoPipe
      have HI := hid hi
      have HZ := hid hz0
      have HZ1 := hid hz1'
      have HZ2 := hid hz2
      clear hi hz0 hz1' hz2
      have HX := hid (show SpIn w M a n c l w.heap.size (w.heap.size + 1) w2.heap.size (w2.heap.size + 1) 0 (some ⟨w2.heap.size, 0, none⟩) 0 0 ((w2.alloc (.cells #[] 40)).alloc (.cells #[.int .i64 M, .slice (some ⟨w2.heap.size, 0, none⟩) 0 0] 26)) from
        SpIn.start (heap_alloc_old (heap_alloc_old A2.out)) (heap_alloc_old (heap_alloc_old T2.out)) (last_new _ _ _ (by simp)) (OwnS.alloc (OwnS.lit0' rfl) _) (bstep HB2.out (by go_grown)) ⟨by omega, by omega, by omega, by omega, by omega⟩)
      clear A1 T1 A2 T2
      go_wp2
      go_loopg [24] n (fun g i wr => ∃ (k : Nat) (a' : Option Addr) (m c' : Nat), k ≤ n ∧ g = n - k ∧ i = .int .i64 k ∧ Hid (SpIn w M a n c l w.heap.size (w.heap.size + 1) w2.heap.size (w2.heap.size + 1) k a' m c' wr))
      case atStart => exact ⟨0, _, 0, 0, Nat.zero_le _, rfl, rfl, HX⟩
      case round =>
        obtain ⟨k, a', m, c', hk, rfl, rfl, hh⟩ := hrel
        have hlt0 := hh.out.lt
        clear HX
        by_cases hlt : k < n
        · obtain ⟨b0, off0, rfl, hbw, x0, x1, x2, x3⟩ := QAt.get (H.out.below hh.out.bel) k hlt
          have hkl : k < l.length := by have := HLN.out; omega
          have HP := hid (goodNet_pipe HG.out hkl)
          have HGS := hid (span_good HG.out (k := k) (by omega))
          have hm : m ≤ 10 := by
            have h1 := span_len l (k := k) (by omega)
            have h2 := OwnS.len hh.out.own
            omega
          obtain ⟨P, hP⟩ : ∃ P, pp l k = P := ⟨_, rfl⟩
          have HPP := hid hP
          rw [hP] at x0 x1 x2 x3 HP
          obtain ⟨t, ht⟩ : ∃ t : Nat, P.2.2.1 = t := ⟨P.2.2.1.toNat, by have := HP.out.2.2.1; omega⟩
          have ht1 : 1 ≤ t ∧ t ≤ M := by have := HP.out.2.2.1; omega
          have HT := hid ht
          rw [ht] at x2
          clear hP ht
          go_upto_region 7 with fail
          have HW := hid (hh.out.below (by go_grown : Below wr.heap.size wr (wr.alloc (.cells #[.int .i64 P.1, .int .i64 P.2.1, .int .i64 t, .int .i64 P.2.2.2] 40))))
          have PB := hid (last_new wr (.cells #[.int .i64 P.1, .int .i64 P.2.1, .int .i64 t, .int .i64 P.2.2.2] 40) _ rfl)
          have hzp : wr.heap.size < (wr.alloc (.cells #[.int .i64 P.1, .int .i64 P.2.1, .int .i64 t, .int .i64 P.2.2.2] 40)).heap.size := by simp
          generalize wr.alloc (.cells #[.int .i64 P.1, .int .i64 P.2.1, .int .i64 t, .int .i64 P.2.2.2] 40) = wp at *
          have hbp : Below w.heap.size w wp := HW.out.bel
          clear x0 x1 x2 x3 hbw hh hlt0
          have o0 : wp.cell? ⟨w2.heap.size + 1, 0, none⟩ = some (.int .i64 M) := by rw [cell_of_row wp _ _ _ _ (0, 0) HW.out.box]; rfl
          have o1 : wp.cell? ⟨w2.heap.size + 1, 1, none⟩ = some (.slice a' m c') := by rw [cell_of_row wp _ _ _ _ (0, 0) HW.out.box]; rfl
          have p1 : wp.cell? ⟨wr.heap.size, 1, none⟩ = some (.int .i64 P.2.1) := by rw [cell_of_row wp _ _ _ _ (0, 0) PB.out]; rfl
          have p2 : wp.cell? ⟨wr.heap.size, 2, none⟩ = some (.int .i64 t) := by rw [cell_of_row wp _ _ _ _ (0, 0) PB.out]; rfl
          have hX : w2.heap.size + 1 < wp.heap.size := HW.out.lt.2.2
          have t1 : (0 : Int) ≤ (t : Int) := by omega
          have t2 : (t : Int) < ((M + 1 : Nat) : Int) := by omega
          have t3 : t < M + 1 := by omega
          obtain ⟨fd, hfd⟩ : ∃ fd, far (span l k) 0 P.2.1 t = fd := ⟨_, rfl⟩
          have HD := hid (show (distL M (span l k) 0 P.2.1)[t]?.getD 0 = fd by rw [distL_at (by omega) (by omega)]; exact hfd)
          by_cases hp : 0 ≤ fd
          · have E := hid (span_yes (l := l) (k := k) (by rw [HPP.out, HT.out, hfd]; exact hp))
            have hd : (decide (fd < 0)) = false := by simpa using hp
            have hd2 : ¬ fd < 0 := by omega
            clear hfd
            go_cut [36] (fun s wx => s = .bool false ∧ Hid (Below wp.heap.size wp wx))
            case first =>
              first
                | (go_region_with (go_at_call 79; refine (i_distances M P.2.1 0 _ _ _ (span l k) _ ((OwnS.at qf_len HW.out.own).below (by go_grown)) HGS.out HP.out.2.1).mono ?_; rintro e w5 ⟨a5, c5, rfl, ho5, hb5⟩; obtain ⟨g5, rfl, -, -⟩ := own_some ho5 (by omega); have d5 := ho5.cell (k := t) t3; rw [HD.out] at d5; have z2 : w5.cell? ⟨wr.heap.size, 2, none⟩ = some (.int .i64 t) := (hb5.cell (p := ⟨wr.heap.size, 2, none⟩) hzp).trans p2))
                | fail
              all_goals (go_wp2_with fail; go_meet)
              all_goals refine ⟨rfl, ?_⟩
              all_goals exact bstep ((Below.refl _ _).drew : Below wp.heap.size wp wp.drew) (by assumption)
            case rest =>
              obtain ⟨rfl, hx⟩ := hcut
              have HV := hid (HW.out.below hx.out)
              clear HW hx o0 o1 p1 p2 hd hd2 hp
              go_wp2
              go_roundg (n - (k + 1))
              case rel => exact ⟨k + 1, a', m, c', by omega, rfl, by go_num, hid (HV.out.skip E.out)⟩
              case measure => omega
          · have E := hid (span_no (l := l) (k := k) (by rw [HPP.out, HT.out, hfd]; exact hp))
            have hd : (decide (fd < 0)) = true := by simpa using hp
            have hd2 : fd < 0 := by omega
            clear hfd
            go_cut [36] (fun s wx => s = .bool true ∧ Hid (Below wp.heap.size wp wx))
            case first =>
              first
                | (go_region_with (go_at_call 79; refine (i_distances M P.2.1 0 _ _ _ (span l k) _ ((OwnS.at qf_len HW.out.own).below (by go_grown)) HGS.out HP.out.2.1).mono ?_; rintro e w5 ⟨a5, c5, rfl, ho5, hb5⟩; obtain ⟨g5, rfl, -, -⟩ := own_some ho5 (by omega); have d5 := ho5.cell (k := t) t3; rw [HD.out] at d5; have z2 : w5.cell? ⟨wr.heap.size, 2, none⟩ = some (.int .i64 t) := (hb5.cell (p := ⟨wr.heap.size, 2, none⟩) hzp).trans p2))
                | fail
              all_goals (go_wp2_with fail; go_meet)
              all_goals refine ⟨rfl, ?_⟩
              all_goals exact bstep ((Below.refl _ _).drew : Below wp.heap.size wp wp.drew) (by assumption)
            case rest =>
              obtain ⟨rfl, hx⟩ := hcut
              have HV := hid (HW.out.below hx.out)
              have PV := hid ((hx.out.block _ hzp).trans PB.out)
              clear HW hx o0 o1 p1 p2 hd hd2 hp
              have o1 : wc.cell? ⟨w2.heap.size + 1, 1, none⟩ = some (.slice a' m c') := by rw [cell_of_row wc _ _ _ _ (0, 0) HV.out.box]; rfl
              have f1 := frozen_of_row wc _ 1 _ _ HV.out.box
              have q0 : wc.cell? ⟨wr.heap.size, 0, none⟩ = some (.int .i64 P.1) := by rw [cell_of_row wc _ _ _ _ (0, 0) PV.out]; rfl
              have q1 : wc.cell? ⟨wr.heap.size, 1, none⟩ = some (.int .i64 P.2.1) := by rw [cell_of_row wc _ _ _ _ (0, 0) PV.out]; rfl
              have q2 : wc.cell? ⟨wr.heap.size, 2, none⟩ = some (.int .i64 t) := by rw [cell_of_row wc _ _ _ _ (0, 0) PV.out]; rfl
              have q3 : wc.cell? ⟨wr.heap.size, 3, none⟩ = some (.int .i64 P.2.2.2) := by rw [cell_of_row wc _ _ _ _ (0, 0) PV.out]; rfl
              have hlv := HV.out.lt
              have HML := hid (OwnS.len HV.out.own)
              have HS1 := hid (show QAt (wc.alloc (.cells #[.int .i64 P.1, .int .i64 P.2.1, .int .i64 t, .int .i64 P.2.2.2] 40)) (some ⟨wc.heap.size, 0, none⟩) 1 [pp l k] from by
                rw [HPP.out]
                have := SAt.single (e := 40) wc P qf_len
                rw [show qf P = [.int .i64 P.1, .int .i64 P.2.1, .int .i64 t, .int .i64 P.2.2.2] by unfold qf; rw [HT.out]] at this
                exact this)
              go_wp2_with (at_builtin; refine wp_append_s _ rfl _ _ _ rfl 40 i0 (.agg #[.int .i64 0, .int .i64 0, .int .i64 0, .int .i64 0]) 32 Try.underlying24 HI.out HZ.out HZ1.out HZ2.out rfl (by decide) qf_len qf_one w2.heap.size _ (span l k) rfl (OwnS.alloc HV.out.own _) _ 1 1 [pp l k] rfl HS1.out (m + 1) (by have := HML.out; omega) (by omega) (by omega) (by simp; omega) ?_)
              intro a5 c5 w5 hown hgrow hblk
              have y6 := (hgrow.cell_far ⟨w2.heap.size + 1, 1, none⟩ (by simp; omega) (Ne.symm HV.out.ne))
              have g6 := (hgrow.frozen_far ⟨w2.heap.size + 1, 1, none⟩ (by simp; omega) (Ne.symm HV.out.ne))
              have HQ2 := hid (HV.out.put (by go_grown) hgrow hown (by simp only [World.size_alloc]; exact hblk) E.out)
              clear hown hgrow hblk
              go_wp2
              go_roundg (n - (k + 1))
              case rel => exact ⟨k + 1, _, _, _, by omega, rfl, by go_num, HQ2⟩
              case measure => omega
        · obtain rfl : k = n := by omega
          have o0 : wr.cell? ⟨w2.heap.size + 1, 0, none⟩ = some (.int .i64 M) := by rw [cell_of_row wr _ _ _ _ (0, 0) hh.out.box]; rfl
          have o1 : wr.cell? ⟨w2.heap.size + 1, 1, none⟩ = some (.slice a' m c') := by rw [cell_of_row wr _ _ _ _ (0, 0) hh.out.box]; rfl
          have y0 : wr.cell? ⟨w.heap.size + 1, 0, none⟩ = some (.int .i64 0) := by rw [cell_of_row wr _ _ _ _ (0, 0) hh.out.res]; rfl
          have y1 : wr.cell? ⟨w.heap.size + 1, 1, none⟩ = some (.slice none 0 0) := by rw [cell_of_row wr _ _ _ _ (0, 0) hh.out.res]; rfl
          have f0 := frozen_of_row wr _ 0 _ _ hh.out.res
          have f1 := frozen_of_row wr _ 1 _ _ hh.out.res
          have e7 := heap_setCell_same _ _ 1 _ _ (.slice a' m c') (heap_setCell_same _ _ 0 _ _ (.int .i64 M) hh.out.res)
          have u0 := cell_of_row _ _ 0 _ _ (0, 0) e7
          have u1 := cell_of_row _ _ 1 _ _ (0, 0) e7
          simp only [List.setIfInBounds_toArray, List.set_cons_zero, List.set_cons_succ, List.getElem?_toArray, List.getElem?_cons_zero, List.getElem?_cons_succ] at u0 u1
          clear e7
          go_wp2
          refine bodyPost_ret (v := .tuple #[.agg #[.int .i64 M, .slice a' m c'], .bool true]) (by simp [results, Try.results26, go_sem, *]) rfl ⟨_, _, _, rfl, ?_, ?_⟩
          · exact ((hh.out.own.far (by show w.heap.size + 1 < _; omega)).far (by show w.heap.size + 1 < _; omega)).mono (by omega)
          · exact ((hh.out.bel).setCell (by show w.heap.size ≤ w.heap.size + 1; omega) _).setCell (by show w.heap.size ≤ w.heap.size + 1; omega) _
    · rw [spanR_no (.inr (fun e => hq (hpo.2 e)))] at hR
      cases hR
      obtain ⟨q, hQ⟩ : ∃ q, cnt M l M = q := ⟨_, rfl⟩
      rw [hQ] at hq hc1
      have hq1 : 1 < q := by omega
      have HQ := hid hQ
      clear h1 hl hpo hq hc1 hQ
      go_enter Try.func26, Try.ntmps26
      go_wp2_with fail
      refine (i_IsValidNetwork M _ _ _ l _ (H.out.below (by go_grown)) (by omega)).mono ?_
      rintro e w1 ⟨rfl, hb1⟩
      rw [HG.out]
      obtain ⟨hc_w1, hf_w1⟩ := bcell hb1
      have hz1 := hb1.size
      simp only [World.size_alloc] at hz1
      have hz_w1_0 : w.heap.size < w1.heap.size := by omega
      have hz_w1_1 : w.heap.size + 1 < w1.heap.size := by omega
      have HB1 := hid (bstep (by go_grown) hb1 : Below w.heap.size w w1)
      have T1 := hid ((hb1.block (w.heap.size + 1) (by simp)).trans (last_new (w.alloc _) _ _ (by simp)))
      have A1 := hid ((hb1.block w.heap.size (by simp <;> omega)).trans (mid_new w _ _ _ rfl))
      clear hb1
      go_wp2_with fail
      refine (i_networkParts M _ _ _ l _ (H.out.below HB1.out) HG.out).mono ?_
      rintro e w2 ⟨a2, c2, rfl, hb2⟩
      rw [HQ.out]
      have hz_w2 := hb2.size
      have hz_w2_0 : w.heap.size < w2.heap.size := by omega
      have hz_w2_1 : w.heap.size + 1 < w2.heap.size := by omega
      have HB2 := hid (bstep HB1.out hb2 : Below w.heap.size w w2)
      have T2 := hid ((hb2.block (w.heap.size + 1) hz_w1_1).trans T1.out)
      have A2 := hid ((hb2.block w.heap.size hz_w1_0).trans A1.out)
      have m0 := cell_of_row w2 _ 0 _ _ (0, 0) A2.out
      have m1 := cell_of_row w2 _ 1 _ _ (0, 0) A2.out
      simp only [List.getElem?_toArray, List.getElem?_cons_zero, List.getElem?_cons_succ] at m0 m1
      clear hc_w1 hf_w1 hb2
      have y0 := cell_of_row w2 _ 0 _ _ (0, 0) T2.out
      have y1 := cell_of_row w2 _ 1 _ _ (0, 0) T2.out
      simp only [List.getElem?_toArray, List.getElem?_cons_zero, List.getElem?_cons_succ] at y0 y1
      have f0 := frozen_of_row w2 _ 0 _ _ T2.out
      have f1 := frozen_of_row w2 _ 1 _ _ T2.out
      have e7 := heap_setCell_same _ _ 1 _ _ (.slice none 0 0) (heap_setCell_same _ _ 0 _ _ (.int .i64 0) T2.out)
      have u0 := cell_of_row _ _ 0 _ _ (0, 0) e7
      have u1 := cell_of_row _ _ 1 _ _ (0, 0) e7
      simp only [List.setIfInBounds_toArray, List.set_cons_zero, List.set_cons_succ, List.getElem?_toArray, List.getElem?_cons_zero, List.getElem?_cons_succ] at u0 u1
      clear e7
      go_wp2
      refine bodyPost_ret (v := .tuple #[.agg #[.int .i64 0, .slice none 0 0], .bool false]) (by simp [results, Try.results26, go_sem, *]) rfl ⟨_, _, _, rfl, OwnS.nil _ _, ?_⟩
      exact (HB2.out.setCell (by show w.heap.size ≤ w.heap.size + 1; omega) _).setCell (by show w.heap.size ≤ w.heap.size + 1; omega) _

theorem i_SpanningTree' (N : Int) (a : Option Addr) (n c : Nat) (l : List Pip) (w : World) (h : QAt w a n l) (hn : n ≤ 1048576) (x : Int) (R : List Pip) (b : Bool) (hR : spanR N l = (x, R, b)) :
    Calls Try.prog 26 #[.agg #[.int .i64 N, .slice a n c]] w fun e w' => ∃ a' c', e = .returned (.tuple #[.agg #[.int .i64 x, .slice a' R.length c'], .bool b]) ∧ OwnQ w' w.heap.size (.slice a' R.length c') R ∧ Below w.heap.size w w' :=
  (i_SpanningTree N a n c l w h hn x R b hR).mono fun _ _ ⟨a', m, c', he, ho, hb⟩ => by
    have := OwnS.len ho
    subst this
    exact ⟨a', c', he, ho, hb⟩

end Go.Proofs.Ytlnhikhpkcgegaa

