/-
  Texts of this claim, joined: NetH.
-/
import Derived.Test.YtikjighlnpdgiaaRi7
import Derived.Test.YtikjighlnpdgiaaRi11
/-
  Networks: what is asked of a source, demands and flows; the imbalance at a node.
-/
set_option linter.unusedVariables false
set_option linter.unusedSimpArgs false
namespace Go.Proofs.Ytikjighlnpdgiaa
open Go.RowKit


/-- A network, a source, demands and flows are valid. -/
def asks (N : Int) (l : List Pip) (s : Int) (ds fs : List Int) : Bool := goodNet N l && inR s 1 N && goodDem N ds && goodFl l.length fs
theorem asks_iff {N : Int} {l : List Pip} {s : Int} {ds fs : List Int} (h : asks N l s ds fs = true) : goodNet N l = true ∧ (1 ≤ s ∧ s ≤ N) ∧ goodDem N ds = true ∧ goodFl l.length fs = true := by
  simp only [asks, Bool.and_eq_true] at h
  exact ⟨h.1.1.1, inR_iff.1 h.1.1.2, h.1.2, h.2⟩

theorem i_canFlow (N s : Int) (a p q : Option Addr) (n c m d r e0 : Nat) (l : List Pip) (ds fs : List Int) (w : World) (h : QAt w a n l) (h' : IntsAt w p m ds) (h'' : IntsAt w q r fs) (hn : n ≤ 1048576) (hm : m ≤ 1048576) (hr : r ≤ 1048576) :
    Calls Try.prog 57 #[.agg #[.int .i64 N, .slice a n c], .int .i64 s, .slice p m d, .slice q r e0] w fun e w' => e = .returned (.bool (asks N l s ds fs)) ∧ Below w.heap.size w w' := by
  have hl := h.1
  have H := hid h
  have H' := hid h'
  have H'' := hid h''
  clear h h' h''
  cases h1 : (goodNet N l && inR s 1 N)
  · have E := hid (show false = asks N l s ds fs by simp only [asks, h1, Bool.false_and])
    have H1 := hid h1
    clear h1 hl
    go_enter Try.func57, Try.ntmps57
    go_wp2_with fail
    refine (i_hasNode N s _ _ _ l _ (H.out.below (by go_grown)) (by omega)).mono ?_
    rintro e w1 ⟨rfl, hb1⟩
    rw [H1.out]
    obtain ⟨hc_w1, hf_w1⟩ := bcell hb1
    have hz_w1_0 : w.heap.size < w1.heap.size := by have := hb1.size; simp only [World.size_alloc] at this; omega
    have HB1 := hid (bstep (by go_grown) hb1 : Below w.heap.size w w1)
    go_wp2
    go_ret
    exact ⟨ret_bool E.out, HB1.out⟩
  · cases h2 : goodDem N ds
    · have E := hid (show false = asks N l s ds fs by simp only [asks, h1, h2, Bool.and_false, Bool.false_and])
      have H1 := hid h1
      have H2 := hid h2
      clear h1 h2 hl
      go_enter Try.func57, Try.ntmps57
      go_wp2_with fail
      refine (i_hasNode N s _ _ _ l _ (H.out.below (by go_grown)) (by omega)).mono ?_
      rintro e w1 ⟨rfl, hb1⟩
      rw [H1.out]
      obtain ⟨hc_w1, hf_w1⟩ := bcell hb1
      have hz_w1_0 : w.heap.size < w1.heap.size := by have := hb1.size; simp only [World.size_alloc] at this; omega
      have HB1 := hid (bstep (by go_grown) hb1 : Below w.heap.size w w1)
      go_wp2_with fail
      refine (i_areDemands N _ _ n _ _ _ ds _ (H'.out.below HB1.out) hm).mono ?_
      rintro e w2 ⟨rfl, hb2⟩
      rw [H2.out]
      go_wp2
      go_ret
      exact ⟨ret_bool E.out, bstep HB1.out hb2⟩
    · have E := hid (show goodFl n fs = asks N l s ds fs by simp only [asks, h1, h2, hl, Bool.true_and])
      have H1 := hid h1
      have H2 := hid h2
      clear h1 h2 hl
      go_enter Try.func57, Try.ntmps57
      go_wp2_with fail
      refine (i_hasNode N s _ _ _ l _ (H.out.below (by go_grown)) (by omega)).mono ?_
      rintro e w1 ⟨rfl, hb1⟩
      rw [H1.out]
      obtain ⟨hc_w1, hf_w1⟩ := bcell hb1
      have hz_w1_0 : w.heap.size < w1.heap.size := by have := hb1.size; simp only [World.size_alloc] at this; omega
      have HB1 := hid (bstep (by go_grown) hb1 : Below w.heap.size w w1)
      go_wp2_with fail
      refine (i_areDemands N _ _ n _ _ _ ds _ (H'.out.below HB1.out) hm).mono ?_
      rintro e w2 ⟨rfl, hb2⟩
      rw [H2.out]
      obtain ⟨hc_w2, hf_w2⟩ := bcell hb2
      have hz_w2_0 : w.heap.size < w2.heap.size := by have := hb2.size; omega
      have HB2 := hid (bstep HB1.out hb2)
      go_wp2_with fail
      refine (i_areFlows N _ _ n _ _ _ fs _ (H''.out.below HB2.out) hr).mono ?_
      rintro e w3 ⟨rfl, hb3⟩
      go_wp2
      go_ret
      exact ⟨ret_bool E.out, bstep HB2.out hb3⟩

/-- What flows into a node through a pipe, and through the first ones. -/
def inflow (l : List Pip) (fs : List Int) (x : Int) (j : Nat) : Int := if x = (pp l j).2.2.1 then fs[j]?.getD 0 else if x = (pp l j).2.1 then -(fs[j]?.getD 0) else 0
def net (l : List Pip) (fs : List Int) (x : Int) (k : Nat) : Int := ((List.range k).map (inflow l fs x)).sum
theorem net_succ (l : List Pip) (fs : List Int) (x : Int) (k : Nat) : net l fs x (k + 1) = net l fs x k + inflow l fs x k := by simp [net, List.range_succ]
theorem inflow_fit {n : Nat} {l : List Pip} {fs : List Int} {x : Int} {k : Nat} (hf : goodFl n fs = true) (hk : k < n) : -8000 ≤ inflow l fs x k ∧ inflow l fs x k ≤ 8000 := by
  have := (goodFl_iff.1 hf).2 _ (getD_mem' (k := k) (by have := (goodFl_iff.1 hf).1; omega))
  unfold inflow
  split
  · exact this
  · split <;> omega
theorem net_fit {n : Nat} {l : List Pip} {fs : List Int} {x : Int} (hf : goodFl n fs = true) : ∀ k, k ≤ n → -(8000 * (k : Int)) ≤ net l fs x k ∧ net l fs x k ≤ 8000 * (k : Int)
  | 0, _ => by simp [net]
  | k + 1, hk => by
    have ih := net_fit (l := l) (x := x) hf k (by omega)
    have := inflow_fit (l := l) (x := x) hf (k := k) (by omega)
    rw [net_succ]
    push_cast
    omega
/-- What is there without the pipes. -/
def own (ds : List Int) (s x : Int) : Int := if x = s then -(ds[x.toNat - 1]?.getD 0) + ds.sum else -(ds[x.toNat - 1]?.getD 0)
def imb (l : List Pip) (ds fs : List Int) (s x : Int) : Int := own ds s x + net l fs x l.length

set_option maxRecDepth 100000 in
set_option maxHeartbeats 4000000 in
theorem i_imbalanceAt (N s x : Int) (a p q : Option Addr) (n c m d e0 : Nat) (l : List Pip) (ds fs : List Int) (w : World) (h : QAt w a n l) (h' : IntsAt w p m ds) (h'' : IntsAt w q n fs) (hg : goodNet N l = true) (hd : goodDem N ds = true) (hf : goodFl n fs = true) (hx : 1 ≤ x ∧ x ≤ N) :
    Calls Try.prog 58 #[.agg #[.int .i64 N, .slice a n c], .int .i64 s, .slice p m d, .slice q n e0, .int .i64 x] w fun e w' => e = .returned (.int .i64 (imb l ds fs s x)) ∧ Below w.heap.size w w' := by
  have hg2 := goodNet_get hg
  have hd2 := goodDem_iff.1 hd
  have hn : n ≤ 10 := by have := h.1; omega
  have hm : (m : Int) = N := by have := h'.1; omega
  have hm8 : m ≤ 8 := by omega
  have hsum := sum_fit (B := 1000) (by decide) hd2.2
  rw [h'.1] at hsum
  have hdx := hd2.2 _ (getD_mem' (k := x.toNat - 1) (by have := h'.1; omega))
  have HV := hid (show ∀ y ∈ ds, -1000000000000 ≤ y ∧ y ≤ 1000000000000 from fun y hy => by have := hd2.2 y hy; omega)
  obtain ⟨bp, op, rfl, hbp, hcp⟩ := h'.2 (x.toNat - 1) (by omega)
  have H := hid h
  have H' := hid h'
  have H'' := hid h''
  have HL := hid h.1
  have HG := hid hg
  have HF := hid hf
  have hx1 : 0 ≤ x - 1 := by omega
  have hx2 : x - 1 < (m : Int) := by omega
  have hcp0 := (bcell ((Below.refl w.heap.size w).alloc (Nat.le_refl _) (.cells #[.int .i64 N, .slice a n c] 31))).1 _ (op + (x.toNat - 1)) hbp
  clear hcp0
  clear h h' h'' hg hd hf hg2 hd2
  by_cases hxs : x = s
  · have HO := hid (show -(ds[x.toNat - 1]?.getD 0) + ds.sum = own ds s x by simp [own, hxs])
    have hxa : x ≤ s := by omega
    have hxb : s ≤ x := by omega
    clear hxs
    go_enter Try.func58, Try.ntmps58
    go_wp2_with fail
    refine (i_sumInts _ _ _ ds _ (H'.out.below (by go_grown)) (by omega) HV.out).mono ?_
    rintro e _ ⟨rfl, rfl⟩
    generalize hv0 : own ds s x = v0 at HO
    have hv1 : -1000 ≤ v0 ∧ v0 ≤ 8000 := by have := HO.out; omega
    have HV0 := hid hv0
    clear hv0
    go_wp2
    go_loopg [11, 30] n (fun g t i wr => ∃ k : Nat, k ≤ n ∧ g = n - k ∧ i = .int .i64 k ∧ t = .int .i64 (v0 + net l fs x k) ∧ Hid (Below w.heap.size w wr))
    case atStart => exact ⟨0, Nat.zero_le _, rfl, rfl, by rw [← HO.out]; simp [net], hid (by go_grown)⟩
    case round =>
      obtain ⟨k, hk, rfl, rfl, rfl, hB⟩ := hrel
      have hnf := net_fit (l := l) (x := x) HF.out k hk
      by_cases hlt : k < n
      · obtain ⟨b0, off0, rfl, hbw, x0, x1, x2, x3⟩ := QAt.get (H.out.below hB.out) k hlt
        obtain ⟨b1, off1, rfl, hbw1, hcell⟩ := (H''.out.below hB.out).2 k hlt
        have hfk := (goodFl_iff.1 HF.out).2 _ (getD_mem' (k := k) (by have := H''.out.1; omega))
        have hz1 : b1 < wr.heap.size + 1 := by omega
        by_cases e1 : x = (pp l k).2.2.1
        · have E := hid (show net l fs x k + fs[k]?.getD 0 = net l fs x (k + 1) by rw [net_succ]; unfold inflow; rw [if_pos e1])
          have ea : x ≤ (pp l k).2.2.1 := by omega
          have eb : (pp l k).2.2.1 ≤ x := by omega
          clear e1
          go_wp2
          go_roundg (n - (k + 1))
          case rel => exact ⟨k + 1, by omega, rfl, by go_num, by rw [← E.out, Int.add_assoc], hid (bstep hB.out (by go_grown))⟩
          case measure => omega
        · by_cases e2 : x = (pp l k).2.1
          · have E := hid (show net l fs x k - fs[k]?.getD 0 = net l fs x (k + 1) by rw [net_succ]; unfold inflow; rw [if_neg e1, if_pos e2]; omega)
            have ea : x ≤ (pp l k).2.1 := by omega
            have eb : (pp l k).2.1 ≤ x := by omega
            clear e2
            go_wp2
            go_roundg (n - (k + 1))
            case rel => exact ⟨k + 1, by omega, rfl, by go_num, by rw [← E.out]; congr 1; omega, hid (bstep hB.out (by go_grown))⟩
            case measure => omega
          · have E := hid (show net l fs x k = net l fs x (k + 1) by rw [net_succ]; unfold inflow; rw [if_neg e1, if_neg e2]; omega)
            go_wp2
            go_roundg (n - (k + 1))
            case rel => exact ⟨k + 1, by omega, rfl, by go_num, by rw [← E.out], hid (bstep hB.out (by go_grown))⟩
            case measure => omega
      · obtain rfl : k = n := by omega
        go_wp2
        go_ret
        refine ⟨ret_int ?_, hB.out⟩
        rw [imb, HV0.out, HL.out]
  · have HO := hid (show -(ds[x.toNat - 1]?.getD 0) = own ds s x by simp [own, hxs])
    go_enter Try.func58, Try.ntmps58
    generalize hv0 : own ds s x = v0 at HO
    have hv1 : -1000 ≤ v0 ∧ v0 ≤ 8000 := by have := HO.out; omega
    have HV0 := hid hv0
    clear hv0
    go_wp2
    go_loopg [11, 30] n (fun g t i wr => ∃ k : Nat, k ≤ n ∧ g = n - k ∧ i = .int .i64 k ∧ t = .int .i64 (v0 + net l fs x k) ∧ Hid (Below w.heap.size w wr))
    case atStart => exact ⟨0, Nat.zero_le _, rfl, rfl, by rw [← HO.out]; simp [net], hid (by go_grown)⟩
    case round =>
      obtain ⟨k, hk, rfl, rfl, rfl, hB⟩ := hrel
      have hnf := net_fit (l := l) (x := x) HF.out k hk
      by_cases hlt : k < n
      · obtain ⟨b0, off0, rfl, hbw, x0, x1, x2, x3⟩ := QAt.get (H.out.below hB.out) k hlt
        obtain ⟨b1, off1, rfl, hbw1, hcell⟩ := (H''.out.below hB.out).2 k hlt
        have hfk := (goodFl_iff.1 HF.out).2 _ (getD_mem' (k := k) (by have := H''.out.1; omega))
        have hz1 : b1 < wr.heap.size + 1 := by omega
        by_cases e1 : x = (pp l k).2.2.1
        · have E := hid (show net l fs x k + fs[k]?.getD 0 = net l fs x (k + 1) by rw [net_succ]; unfold inflow; rw [if_pos e1])
          have ea : x ≤ (pp l k).2.2.1 := by omega
          have eb : (pp l k).2.2.1 ≤ x := by omega
          clear e1
          go_wp2
          go_roundg (n - (k + 1))
          case rel => exact ⟨k + 1, by omega, rfl, by go_num, by rw [← E.out, Int.add_assoc], hid (bstep hB.out (by go_grown))⟩
          case measure => omega
        · by_cases e2 : x = (pp l k).2.1
          · have E := hid (show net l fs x k - fs[k]?.getD 0 = net l fs x (k + 1) by rw [net_succ]; unfold inflow; rw [if_neg e1, if_pos e2]; omega)
            have ea : x ≤ (pp l k).2.1 := by omega
            have eb : (pp l k).2.1 ≤ x := by omega
            clear e2
            go_wp2
            go_roundg (n - (k + 1))
            case rel => exact ⟨k + 1, by omega, rfl, by go_num, by rw [← E.out]; congr 1; omega, hid (bstep hB.out (by go_grown))⟩
            case measure => omega
          · have E := hid (show net l fs x k = net l fs x (k + 1) by rw [net_succ]; unfold inflow; rw [if_neg e1, if_neg e2]; omega)
            go_wp2
            go_roundg (n - (k + 1))
            case rel => exact ⟨k + 1, by omega, rfl, by go_num, by rw [← E.out], hid (bstep hB.out (by go_grown))⟩
            case measure => omega
      · obtain rfl : k = n := by omega
        go_wp2
        go_ret
        refine ⟨ret_int ?_, hB.out⟩
        rw [imb, HV0.out, HL.out]

end Go.Proofs.Ytikjighlnpdgiaa

