/-
  Texts of this claim, joined: NetH, NetH3, Bal, StepA.
-/
import Derived.Test.YtlnhikhpkcgegaaLo9
import Derived.Test.YtlnhikhpkcgegaaLo10
import Derived.Test.YtlnhikhpkcgegaaLo12
/-
  Networks: what is asked of a source, demands and flows; the imbalance at a node.
-/
set_option linter.unusedVariables false
set_option linter.unusedSimpArgs false
namespace Go.Proofs.Ytlnhikhpkcgegaa
open Go.RowKit


/-- A network, a source, demands and flows are valid. -/
def asks (N : Int) (l : List Pip) (s : Int) (ds fs : List Int) : Bool := goodNet N l && inR s 1 N && goodDem N ds && goodFl l.length fs
theorem asks_iff {N : Int} {l : List Pip} {s : Int} {ds fs : List Int} (h : asks N l s ds fs = true) : goodNet N l = true ∧ (1 ≤ s ∧ s ≤ N) ∧ goodDem N ds = true ∧ goodFl l.length fs = true := by
  simp only [asks, Bool.and_eq_true] at h
  exact ⟨h.1.1.1, inR_iff.1 h.1.1.2, h.1.2, h.2⟩

theorem i_canFlow (N s : Int) (a p q : Option Addr) (n c m d r e0 : Nat) (l : List Pip) (ds fs : List Int) (w : World) (h : QAt w a n l) (h' : IntsAt w p m ds) (h'' : IntsAt w q r fs) (hn : n ≤ 1048576) (hm : m ≤ 1048576) (hr : r ≤ 1048576) :
    Calls Try.prog 71 #[.agg #[.int .i64 N, .slice a n c], .int .i64 s, .slice p m d, .slice q r e0] w fun e w' => e = .returned (.bool (asks N l s ds fs)) ∧ Below w.heap.size w w' := by
  have hl := h.1
  have H := hid h
  have H' := hid h'
  have H'' := hid h''
  clear h h' h''
  cases h1 : (goodNet N l && inR s 1 N)
  · have E := hid (show false = asks N l s ds fs by simp only [asks, h1, Bool.false_and])
    have H1 := hid h1
    clear h1 hl
    go_enter Try.func71, Try.ntmps71
    go_wp2_with fail
    refine (i_hasNode N s _ _ _ l _ (H.out.below (by go_grown)) (by omega)).mono ?_
    rintro e w1 ⟨rfl, hb1⟩
    rw [H1.out]
    obtain ⟨hc_w1, hf_w1⟩ := bcell hb1
    have hz_w1_0 : w.heap.size < w1.heap.size := by have := hb1.size; simp only [World.size_alloc] at this; omega
    have HB1 := hid (bstep (by go_grown) hb1 : Below w.heap.size w w1)
    go_wp2
    go_ret
    exact ⟨ret_bool E.out, HB1.out⟩
  · cases h2 : goodDem N ds
    · have E := hid (show false = asks N l s ds fs by simp only [asks, h1, h2, Bool.and_false, Bool.false_and])
      have H1 := hid h1
      have H2 := hid h2
      clear h1 h2 hl
      go_enter Try.func71, Try.ntmps71
      go_wp2_with fail
      refine (i_hasNode N s _ _ _ l _ (H.out.below (by go_grown)) (by omega)).mono ?_
      rintro e w1 ⟨rfl, hb1⟩
      rw [H1.out]
      obtain ⟨hc_w1, hf_w1⟩ := bcell hb1
      have hz_w1_0 : w.heap.size < w1.heap.size := by have := hb1.size; simp only [World.size_alloc] at this; omega
      have HB1 := hid (bstep (by go_grown) hb1 : Below w.heap.size w w1)
      go_wp2_with fail
      refine (i_areDemands N _ _ n _ _ _ ds _ (H'.out.below HB1.out) hm).mono ?_
      rintro e w2 ⟨rfl, hb2⟩
      rw [H2.out]
      go_wp2
      go_ret
      exact ⟨ret_bool E.out, bstep HB1.out hb2⟩
    · have E := hid (show goodFl n fs = asks N l s ds fs by simp only [asks, h1, h2, hl, Bool.true_and])
      have H1 := hid h1
      have H2 := hid h2
      clear h1 h2 hl
      go_enter Try.func71, Try.ntmps71
      go_wp2_with fail
      refine (i_hasNode N s _ _ _ l _ (H.out.below (by go_grown)) (by omega)).mono ?_
      rintro e w1 ⟨rfl, hb1⟩
      rw [H1.out]
      obtain ⟨hc_w1, hf_w1⟩ := bcell hb1
      have hz_w1_0 : w.heap.size < w1.heap.size := by have := hb1.size; simp only [World.size_alloc] at this; omega
      have HB1 := hid (bstep (by go_grown) hb1 : Below w.heap.size w w1)
      go_wp2_with fail
      refine (i_areDemands N _ _ n _ _ _ ds _ (H'.out.below HB1.out) hm).mono ?_
      rintro e w2 ⟨rfl, hb2⟩
      rw [H2.out]
      obtain ⟨hc_w2, hf_w2⟩ := bcell hb2
      have hz_w2_0 : w.heap.size < w2.heap.size := by have := hb2.size; omega
      have HB2 := hid (bstep HB1.out hb2)
      go_wp2_with fail
      refine (i_areFlows N _ _ n _ _ _ fs _ (H''.out.below HB2.out) hr).mono ?_
      rintro e w3 ⟨rfl, hb3⟩
      go_wp2
      go_ret
      exact ⟨ret_bool E.out, bstep HB2.out hb3⟩
theorem s_l8Asked (N s : Int) (a p q : Option Addr) (n c m d r e0 : Nat) (l : List Pip) (ds fs : List Int) (w : World) (h : QAt w a n l) (h' : IntsAt w p m ds) (h'' : IntsAt w q r fs) (hn : n ≤ 1048576) (hm : m ≤ 1048576) (hr : r ≤ 1048576) :
    Calls Try.prog 81 #[.agg #[.int .i64 N, .slice a n c], .int .i64 s, .slice p m d, .slice q r e0] w fun e w' => e = .returned (.bool (asks N l s ds fs)) ∧ Below w.heap.size w w' := by
  have hl := h.1
  have H := hid h
  have H' := hid h'
  have H'' := hid h''
  clear h h' h''
  cases h1 : (goodNet N l && inR s 1 N)
  · have E := hid (show false = asks N l s ds fs by simp only [asks, h1, Bool.false_and])
    have H1 := hid h1
    clear h1 hl
    go_enter Try.func81, Try.ntmps81
    go_wp2_with fail
    refine (s_l2Node N s _ _ _ l _ (H.out.below (by go_grown)) (by omega)).mono ?_
    rintro e w1 ⟨rfl, hb1⟩
    rw [H1.out]
    obtain ⟨hc_w1, hf_w1⟩ := bcell hb1
    have hz_w1_0 : w.heap.size < w1.heap.size := by have := hb1.size; simp only [World.size_alloc] at this; omega
    have HB1 := hid (bstep (by go_grown) hb1 : Below w.heap.size w w1)
    go_wp2
    go_ret
    exact ⟨ret_bool E.out, HB1.out⟩
  · cases h2 : goodDem N ds
    · have E := hid (show false = asks N l s ds fs by simp only [asks, h1, h2, Bool.and_false, Bool.false_and])
      have H1 := hid h1
      have H2 := hid h2
      clear h1 h2 hl
      go_enter Try.func81, Try.ntmps81
      go_wp2_with fail
      refine (s_l2Node N s _ _ _ l _ (H.out.below (by go_grown)) (by omega)).mono ?_
      rintro e w1 ⟨rfl, hb1⟩
      rw [H1.out]
      obtain ⟨hc_w1, hf_w1⟩ := bcell hb1
      have hz_w1_0 : w.heap.size < w1.heap.size := by have := hb1.size; simp only [World.size_alloc] at this; omega
      have HB1 := hid (bstep (by go_grown) hb1 : Below w.heap.size w w1)
      go_wp2_with fail
      refine (s_l8Demands N _ _ n _ _ _ ds _ (H'.out.below HB1.out) hm).mono ?_
      rintro e w2 ⟨rfl, hb2⟩
      rw [H2.out]
      go_wp2
      go_ret
      exact ⟨ret_bool E.out, bstep HB1.out hb2⟩
    · have E := hid (show goodFl n fs = asks N l s ds fs by simp only [asks, h1, h2, hl, Bool.true_and])
      have H1 := hid h1
      have H2 := hid h2
      clear h1 h2 hl
      go_enter Try.func81, Try.ntmps81
      go_wp2_with fail
      refine (s_l2Node N s _ _ _ l _ (H.out.below (by go_grown)) (by omega)).mono ?_
      rintro e w1 ⟨rfl, hb1⟩
      rw [H1.out]
      obtain ⟨hc_w1, hf_w1⟩ := bcell hb1
      have hz_w1_0 : w.heap.size < w1.heap.size := by have := hb1.size; simp only [World.size_alloc] at this; omega
      have HB1 := hid (bstep (by go_grown) hb1 : Below w.heap.size w w1)
      go_wp2_with fail
      refine (s_l8Demands N _ _ n _ _ _ ds _ (H'.out.below HB1.out) hm).mono ?_
      rintro e w2 ⟨rfl, hb2⟩
      rw [H2.out]
      obtain ⟨hc_w2, hf_w2⟩ := bcell hb2
      have hz_w2_0 : w.heap.size < w2.heap.size := by have := hb2.size; omega
      have HB2 := hid (bstep HB1.out hb2)
      go_wp2_with fail
      refine (s_l8Flows N _ _ n _ _ _ fs _ (H''.out.below HB2.out) hr).mono ?_
      rintro e w3 ⟨rfl, hb3⟩
      go_wp2
      go_ret
      exact ⟨ret_bool E.out, bstep HB2.out hb3⟩

/-- What flows into a node through a pipe, and through the first ones. -/
def inflow (l : List Pip) (fs : List Int) (x : Int) (j : Nat) : Int := if x = (pp l j).2.2.1 then fs[j]?.getD 0 else if x = (pp l j).2.1 then -(fs[j]?.getD 0) else 0
def net (l : List Pip) (fs : List Int) (x : Int) (k : Nat) : Int := ((List.range k).map (inflow l fs x)).sum
theorem net_succ (l : List Pip) (fs : List Int) (x : Int) (k : Nat) : net l fs x (k + 1) = net l fs x k + inflow l fs x k := by simp [net, List.range_succ]
theorem inflow_fit {n : Nat} {l : List Pip} {fs : List Int} {x : Int} {k : Nat} (hf : goodFl n fs = true) (hk : k < n) : -8000 ≤ inflow l fs x k ∧ inflow l fs x k ≤ 8000 := by
  have := (goodFl_iff.1 hf).2 _ (getD_mem' (k := k) (by have := (goodFl_iff.1 hf).1; omega))
  unfold inflow
  split
  · exact this
  · split <;> omega
theorem net_fit {n : Nat} {l : List Pip} {fs : List Int} {x : Int} (hf : goodFl n fs = true) : ∀ k, k ≤ n → -(8000 * (k : Int)) ≤ net l fs x k ∧ net l fs x k ≤ 8000 * (k : Int)
  | 0, _ => by simp [net]
  | k + 1, hk => by
    have ih := net_fit (l := l) (x := x) hf k (by omega)
    have := inflow_fit (l := l) (x := x) hf (k := k) (by omega)
    rw [net_succ]
    push_cast
    omega
/-- What is there without the pipes. -/
def own (ds : List Int) (s x : Int) : Int := if x = s then -(ds[x.toNat - 1]?.getD 0) + ds.sum else -(ds[x.toNat - 1]?.getD 0)
def imb (l : List Pip) (ds fs : List Int) (s x : Int) : Int := own ds s x + net l fs x l.length

set_option maxRecDepth 100000 in
set_option maxHeartbeats 4000000 in
theorem i_imbalanceAt (N s x : Int) (a p q : Option Addr) (n c m d e0 : Nat) (l : List Pip) (ds fs : List Int) (w : World) (h : QAt w a n l) (h' : IntsAt w p m ds) (h'' : IntsAt w q n fs) (hg : goodNet N l = true) (hd : goodDem N ds = true) (hf : goodFl n fs = true) (hx : 1 ≤ x ∧ x ≤ N) :
    Calls Try.prog 72 #[.agg #[.int .i64 N, .slice a n c], .int .i64 s, .slice p m d, .slice q n e0, .int .i64 x] w fun e w' => e = .returned (.int .i64 (imb l ds fs s x)) ∧ Below w.heap.size w w' := by
  have hg2 := goodNet_get hg
  have hd2 := goodDem_iff.1 hd
  have hn : n ≤ 10 := by have := h.1; omega
  have hm : (m : Int) = N := by have := h'.1; omega
  have hm8 : m ≤ 8 := by omega
  have hsum := sum_fit (B := 1000) (by decide) hd2.2
  rw [h'.1] at hsum
  have hdx := hd2.2 _ (getD_mem' (k := x.toNat - 1) (by have := h'.1; omega))
  have HV := hid (show ∀ y ∈ ds, -1000000000000 ≤ y ∧ y ≤ 1000000000000 from fun y hy => by have := hd2.2 y hy; omega)
  obtain ⟨bp, op, rfl, hbp, hcp⟩ := h'.2 (x.toNat - 1) (by omega)
  have H := hid h
  have H' := hid h'
  have H'' := hid h''
  have HL := hid h.1
  have HG := hid hg
  have HF := hid hf
  have hx1 : 0 ≤ x - 1 := by omega
  have hx2 : x - 1 < (m : Int) := by omega
  have hcp0 := (bcell ((Below.refl w.heap.size w).alloc (Nat.le_refl _) (.cells #[.int .i64 N, .slice a n c] 26))).1 _ (op + (x.toNat - 1)) hbp
  clear hcp0
  clear h h' h'' hg hd hf hg2 hd2
  by_cases hxs : x = s
  · have HO := hid (show -(ds[x.toNat - 1]?.getD 0) + ds.sum = own ds s x by simp [own, hxs])
    have hxa : x ≤ s := by omega
    have hxb : s ≤ x := by omega
    clear hxs
    go_enter Try.func72, Try.ntmps72
    go_wp2_with fail
    refine (i_sumInts _ _ _ ds _ (H'.out.below (by go_grown)) (by omega) HV.out).mono ?_
    rintro e _ ⟨rfl, rfl⟩
    generalize hv0 : own ds s x = v0 at HO
    have hv1 : -1000 ≤ v0 ∧ v0 ≤ 8000 := by have := HO.out; omega
    have HV0 := hid hv0
    clear hv0
    go_wp2
    go_loopg [11, 30] n (fun g t i wr => ∃ k : Nat, k ≤ n ∧ g = n - k ∧ i = .int .i64 k ∧ t = .int .i64 (v0 + net l fs x k) ∧ Hid (Below w.heap.size w wr))
    case atStart => exact ⟨0, Nat.zero_le _, rfl, rfl, by rw [← HO.out]; simp [net], hid (by go_grown)⟩
    case round =>
      obtain ⟨k, hk, rfl, rfl, rfl, hB⟩ := hrel
      have hnf := net_fit (l := l) (x := x) HF.out k hk
      by_cases hlt : k < n
      · obtain ⟨b0, off0, rfl, hbw, x0, x1, x2, x3⟩ := QAt.get (H.out.below hB.out) k hlt
        obtain ⟨b1, off1, rfl, hbw1, hcell⟩ := (H''.out.below hB.out).2 k hlt
        have hfk := (goodFl_iff.1 HF.out).2 _ (getD_mem' (k := k) (by have := H''.out.1; omega))
        have hz1 : b1 < wr.heap.size + 1 := by omega
        by_cases e1 : x = (pp l k).2.2.1
        · have E := hid (show net l fs x k + fs[k]?.getD 0 = net l fs x (k + 1) by rw [net_succ]; unfold inflow; rw [if_pos e1])
          have ea : x ≤ (pp l k).2.2.1 := by omega
          have eb : (pp l k).2.2.1 ≤ x := by omega
          clear e1
          go_wp2
          go_roundg (n - (k + 1))
          case rel => exact ⟨k + 1, by omega, rfl, by go_num, by rw [← E.out, Int.add_assoc], hid (bstep hB.out (by go_grown))⟩
          case measure => omega
        · by_cases e2 : x = (pp l k).2.1
          · have E := hid (show net l fs x k - fs[k]?.getD 0 = net l fs x (k + 1) by rw [net_succ]; unfold inflow; rw [if_neg e1, if_pos e2]; omega)
            have ea : x ≤ (pp l k).2.1 := by omega
            have eb : (pp l k).2.1 ≤ x := by omega
            clear e2
            go_wp2
            go_roundg (n - (k + 1))
            case rel => exact ⟨k + 1, by omega, rfl, by go_num, by rw [← E.out]; congr 1; omega, hid (bstep hB.out (by go_grown))⟩
            case measure => omega
          · have E := hid (show net l fs x k = net l fs x (k + 1) by rw [net_succ]; unfold inflow; rw [if_neg e1, if_neg e2]; omega)
            go_wp2
            go_roundg (n - (k + 1))
            case rel => exact ⟨k + 1, by omega, rfl, by go_num, by rw [← E.out], hid (bstep hB.out (by go_grown))⟩
            case measure => omega
      · obtain rfl : k = n := by omega
        go_wp2
        go_ret
        refine ⟨ret_int ?_, hB.out⟩
        rw [imb, HV0.out, HL.out]
  · have HO := hid (show -(ds[x.toNat - 1]?.getD 0) = own ds s x by simp [own, hxs])
    go_enter Try.func72, Try.ntmps72
    generalize hv0 : own ds s x = v0 at HO
    have hv1 : -1000 ≤ v0 ∧ v0 ≤ 8000 := by have := HO.out; omega
    have HV0 := hid hv0
    clear hv0
    go_wp2
    go_loopg [11, 30] n (fun g t i wr => ∃ k : Nat, k ≤ n ∧ g = n - k ∧ i = .int .i64 k ∧ t = .int .i64 (v0 + net l fs x k) ∧ Hid (Below w.heap.size w wr))
    case atStart => exact ⟨0, Nat.zero_le _, rfl, rfl, by rw [← HO.out]; simp [net], hid (by go_grown)⟩
    case round =>
      obtain ⟨k, hk, rfl, rfl, rfl, hB⟩ := hrel
      have hnf := net_fit (l := l) (x := x) HF.out k hk
      by_cases hlt : k < n
      · obtain ⟨b0, off0, rfl, hbw, x0, x1, x2, x3⟩ := QAt.get (H.out.below hB.out) k hlt
        obtain ⟨b1, off1, rfl, hbw1, hcell⟩ := (H''.out.below hB.out).2 k hlt
        have hfk := (goodFl_iff.1 HF.out).2 _ (getD_mem' (k := k) (by have := H''.out.1; omega))
        have hz1 : b1 < wr.heap.size + 1 := by omega
        by_cases e1 : x = (pp l k).2.2.1
        · have E := hid (show net l fs x k + fs[k]?.getD 0 = net l fs x (k + 1) by rw [net_succ]; unfold inflow; rw [if_pos e1])
          have ea : x ≤ (pp l k).2.2.1 := by omega
          have eb : (pp l k).2.2.1 ≤ x := by omega
          clear e1
          go_wp2
          go_roundg (n - (k + 1))
          case rel => exact ⟨k + 1, by omega, rfl, by go_num, by rw [← E.out, Int.add_assoc], hid (bstep hB.out (by go_grown))⟩
          case measure => omega
        · by_cases e2 : x = (pp l k).2.1
          · have E := hid (show net l fs x k - fs[k]?.getD 0 = net l fs x (k + 1) by rw [net_succ]; unfold inflow; rw [if_neg e1, if_pos e2]; omega)
            have ea : x ≤ (pp l k).2.1 := by omega
            have eb : (pp l k).2.1 ≤ x := by omega
            clear e2
            go_wp2
            go_roundg (n - (k + 1))
            case rel => exact ⟨k + 1, by omega, rfl, by go_num, by rw [← E.out]; congr 1; omega, hid (bstep hB.out (by go_grown))⟩
            case measure => omega
          · have E := hid (show net l fs x k = net l fs x (k + 1) by rw [net_succ]; unfold inflow; rw [if_neg e1, if_neg e2]; omega)
            go_wp2
            go_roundg (n - (k + 1))
            case rel => exact ⟨k + 1, by omega, rfl, by go_num, by rw [← E.out], hid (bstep hB.out (by go_grown))⟩
            case measure => omega
      · obtain rfl : k = n := by omega
        go_wp2
        go_ret
        refine ⟨ret_int ?_, hB.out⟩
        rw [imb, HV0.out, HL.out]
set_option maxRecDepth 100000 in
set_option maxHeartbeats 4000000 in
theorem s_l8Imbalance (N s x : Int) (a p q : Option Addr) (n c m d e0 : Nat) (l : List Pip) (ds fs : List Int) (w : World) (h : QAt w a n l) (h' : IntsAt w p m ds) (h'' : IntsAt w q n fs) (hg : goodNet N l = true) (hd : goodDem N ds = true) (hf : goodFl n fs = true) (hx : 1 ≤ x ∧ x ≤ N) :
    Calls Try.prog 152 #[.agg #[.int .i64 N, .slice a n c], .int .i64 s, .slice p m d, .slice q n e0, .int .i64 x] w fun e w' => e = .returned (.int .i64 (imb l ds fs s x)) ∧ Below w.heap.size w w' := by
  have hg2 := goodNet_get hg
  have hd2 := goodDem_iff.1 hd
  have hn : n ≤ 10 := by have := h.1; omega
  have hm : (m : Int) = N := by have := h'.1; omega
  have hm8 : m ≤ 8 := by omega
  have hsum := sum_fit (B := 1000) (by decide) hd2.2
  rw [h'.1] at hsum
  have hdx := hd2.2 _ (getD_mem' (k := x.toNat - 1) (by have := h'.1; omega))
  have HV := hid (show ∀ y ∈ ds, -1000000000000 ≤ y ∧ y ≤ 1000000000000 from fun y hy => by have := hd2.2 y hy; omega)
  obtain ⟨bp, op, rfl, hbp, hcp⟩ := h'.2 (x.toNat - 1) (by omega)
  have H := hid h
  have H' := hid h'
  have H'' := hid h''
  have HL := hid h.1
  have HG := hid hg
  have HF := hid hf
  have hx1 : 0 ≤ x - 1 := by omega
  have hx2 : x - 1 < (m : Int) := by omega
  have hcp0 := (bcell ((Below.refl w.heap.size w).alloc (Nat.le_refl _) (.cells #[.int .i64 N, .slice a n c] 26))).1 _ (op + (x.toNat - 1)) hbp
  clear hcp0
  clear h h' h'' hg hd hf hg2 hd2
  by_cases hxs : x = s
  · have HO := hid (show -(ds[x.toNat - 1]?.getD 0) + ds.sum = own ds s x by simp [own, hxs])
    have hxa : x ≤ s := by omega
    have hxb : s ≤ x := by omega
    clear hxs
    go_enter Try.func152, Try.ntmps152
    go_wp2_with fail
    refine (s_l8Sum _ _ _ ds _ (H'.out.below (by go_grown)) (by omega) HV.out).mono ?_
    rintro e _ ⟨rfl, rfl⟩
    generalize hv0 : own ds s x = v0 at HO
    have hv1 : -1000 ≤ v0 ∧ v0 ≤ 8000 := by have := HO.out; omega
    have HV0 := hid hv0
    clear hv0
    go_wp2
    go_loopg [11, 12] n (fun g t i wr => ∃ k : Nat, k ≤ n ∧ g = n - k ∧ i = .int .i64 k ∧ t = .int .i64 (v0 + net l fs x k) ∧ wr = w.alloc (.cells #[.int .i64 N, .slice a n c] 26))
    case atStart => exact ⟨0, Nat.zero_le _, rfl, rfl, by rw [← HO.out]; simp [net], rfl⟩
    case round =>
      obtain ⟨k, hk, rfl, rfl, rfl, rfl⟩ := hrel
      have hnf := net_fit (l := l) (x := x) HF.out k hk
      by_cases hlt : k < n
      · obtain ⟨b0, off0, rfl, hbw, x0, x1, x2, x3⟩ := QAt.get (H.out.below ((Below.refl _ _).alloc (Nat.le_refl _) (.cells #[.int .i64 N, .slice a n c] 26))) k hlt
        obtain ⟨b1, off1, rfl, hbw1, hcell⟩ := (H''.out.below ((Below.refl _ _).alloc (Nat.le_refl _) (.cells #[.int .i64 N, .slice (some ⟨b0, off0, none⟩) n c] 26))).2 k hlt
        have hfk := (goodFl_iff.1 HF.out).2 _ (getD_mem' (k := k) (by have := H''.out.1; omega))
        have hne := (goodNet_pipe HG.out (k := k) (by have := HL.out; omega)).2.2.2.1
        by_cases e1 : x = (pp l k).2.2.1
        · have E := hid (show net l fs x k + fs[k]?.getD 0 = net l fs x (k + 1) by rw [net_succ]; unfold inflow; rw [if_pos e1])
          have e2 : ¬ (pp l k).2.1 = x := by omega
          have ea : x ≤ (pp l k).2.2.1 := by omega
          have eb : (pp l k).2.2.1 ≤ x := by omega
          clear e1
          go_wp2
          go_roundg (n - (k + 1))
          case rel => exact ⟨k + 1, by omega, rfl, by go_num, by rw [← E.out, Int.add_assoc], rfl⟩
          case measure => omega
        · by_cases e2 : x = (pp l k).2.1
          · have E := hid (show net l fs x k - fs[k]?.getD 0 = net l fs x (k + 1) by rw [net_succ]; unfold inflow; rw [if_neg e1, if_pos e2]; omega)
            have e1' : ¬ (pp l k).2.2.1 = x := fun e => e1 e.symm
            have ea : x ≤ (pp l k).2.1 := by omega
            have eb : (pp l k).2.1 ≤ x := by omega
            clear e2
            go_wp2
            go_roundg (n - (k + 1))
            case rel => exact ⟨k + 1, by omega, rfl, by go_num, by rw [← E.out]; congr 1; omega, rfl⟩
            case measure => omega
          · have E := hid (show net l fs x k = net l fs x (k + 1) by rw [net_succ]; unfold inflow; rw [if_neg e1, if_neg e2]; omega)
            have e1' : ¬ (pp l k).2.2.1 = x := fun e => e1 e.symm
            have e2' : ¬ (pp l k).2.1 = x := fun e => e2 e.symm
            go_wp2
            go_roundg (n - (k + 1))
            case rel => exact ⟨k + 1, by omega, rfl, by go_num, by rw [← E.out], rfl⟩
            case measure => omega
      · obtain rfl : k = n := by omega
        go_wp2
        go_ret
        refine ⟨ret_int ?_, by go_grown⟩
        rw [imb, HV0.out, HL.out]
  · have HO := hid (show -(ds[x.toNat - 1]?.getD 0) = own ds s x by simp [own, hxs])
    go_enter Try.func152, Try.ntmps152
    generalize hv0 : own ds s x = v0 at HO
    have hv1 : -1000 ≤ v0 ∧ v0 ≤ 8000 := by have := HO.out; omega
    have HV0 := hid hv0
    clear hv0
    go_wp2
    go_loopg [11, 12] n (fun g t i wr => ∃ k : Nat, k ≤ n ∧ g = n - k ∧ i = .int .i64 k ∧ t = .int .i64 (v0 + net l fs x k) ∧ wr = w.alloc (.cells #[.int .i64 N, .slice a n c] 26))
    case atStart => exact ⟨0, Nat.zero_le _, rfl, rfl, by rw [← HO.out]; simp [net], rfl⟩
    case round =>
      obtain ⟨k, hk, rfl, rfl, rfl, rfl⟩ := hrel
      have hnf := net_fit (l := l) (x := x) HF.out k hk
      by_cases hlt : k < n
      · obtain ⟨b0, off0, rfl, hbw, x0, x1, x2, x3⟩ := QAt.get (H.out.below ((Below.refl _ _).alloc (Nat.le_refl _) (.cells #[.int .i64 N, .slice a n c] 26))) k hlt
        obtain ⟨b1, off1, rfl, hbw1, hcell⟩ := (H''.out.below ((Below.refl _ _).alloc (Nat.le_refl _) (.cells #[.int .i64 N, .slice (some ⟨b0, off0, none⟩) n c] 26))).2 k hlt
        have hfk := (goodFl_iff.1 HF.out).2 _ (getD_mem' (k := k) (by have := H''.out.1; omega))
        have hne := (goodNet_pipe HG.out (k := k) (by have := HL.out; omega)).2.2.2.1
        by_cases e1 : x = (pp l k).2.2.1
        · have E := hid (show net l fs x k + fs[k]?.getD 0 = net l fs x (k + 1) by rw [net_succ]; unfold inflow; rw [if_pos e1])
          have e2 : ¬ (pp l k).2.1 = x := by omega
          have ea : x ≤ (pp l k).2.2.1 := by omega
          have eb : (pp l k).2.2.1 ≤ x := by omega
          clear e1
          go_wp2
          go_roundg (n - (k + 1))
          case rel => exact ⟨k + 1, by omega, rfl, by go_num, by rw [← E.out, Int.add_assoc], rfl⟩
          case measure => omega
        · by_cases e2 : x = (pp l k).2.1
          · have E := hid (show net l fs x k - fs[k]?.getD 0 = net l fs x (k + 1) by rw [net_succ]; unfold inflow; rw [if_neg e1, if_pos e2]; omega)
            have e1' : ¬ (pp l k).2.2.1 = x := fun e => e1 e.symm
            have ea : x ≤ (pp l k).2.1 := by omega
            have eb : (pp l k).2.1 ≤ x := by omega
            clear e2
            go_wp2
            go_roundg (n - (k + 1))
            case rel => exact ⟨k + 1, by omega, rfl, by go_num, by rw [← E.out]; congr 1; omega, rfl⟩
            case measure => omega
          · have E := hid (show net l fs x k = net l fs x (k + 1) by rw [net_succ]; unfold inflow; rw [if_neg e1, if_neg e2]; omega)
            have e1' : ¬ (pp l k).2.2.1 = x := fun e => e1 e.symm
            have e2' : ¬ (pp l k).2.1 = x := fun e => e2 e.symm
            go_wp2
            go_roundg (n - (k + 1))
            case rel => exact ⟨k + 1, by omega, rfl, by go_num, by rw [← E.out], rfl⟩
            case measure => omega
      · obtain rfl : k = n := by omega
        go_wp2
        go_ret
        refine ⟨ret_int ?_, by go_grown⟩
        rw [imb, HV0.out, HL.out]

end Go.Proofs.Ytlnhikhpkcgegaa

/-
  Networks: IsBalanced.
-/
set_option linter.unusedVariables false
set_option linter.unusedSimpArgs false
namespace Go.Proofs.Ytlnhikhpkcgegaa
open Go.RowKit

/-- No node has an imbalance. -/
def bal (l : List Pip) (ds fs : List Int) (s : Int) (M : Nat) : Bool := (List.range M).all fun k => decide (imb l ds fs s ((k : Int) + 1) = 0)
theorem bal_yes {l : List Pip} {ds fs : List Int} {s : Int} {M : Nat} (h : ∀ k, k < M → imb l ds fs s ((k : Int) + 1) = 0) : bal l ds fs s M = true := by
  simp only [bal, List.all_eq_true, List.mem_range, decide_eq_true_eq]
  exact h
theorem bal_no {l : List Pip} {ds fs : List Int} {s : Int} {M k : Nat} (hk : k < M) (h : ¬ imb l ds fs s ((k : Int) + 1) = 0) : bal l ds fs s M = false := by
  cases e : bal l ds fs s M
  · rfl
  · simp only [bal, List.all_eq_true, List.mem_range, decide_eq_true_eq] at e
    exact absurd (e k hk) h
/-- What IsBalanced returns. -/
def balR (N : Int) (l : List Pip) (s : Int) (ds fs : List Int) : Bool × Bool := if asks N l s ds fs = true then (bal l ds fs s N.toNat, true) else (false, false)

set_option maxRecDepth 100000 in
set_option maxHeartbeats 2000000 in
theorem s_l8Balanced (M : Nat) (s : Int) (a p q : Option Addr) (r c m d e0 : Nat) (l : List Pip) (ds fs : List Int) (w : World) (h : QAt w a r l) (h' : IntsAt w p m ds) (h'' : IntsAt w q r fs) (hg : goodNet M l = true) (hd : goodDem M ds = true) (hf : goodFl r fs = true) :
    Calls Try.prog 82 #[.agg #[.int .i64 M, .slice a r c], .int .i64 s, .slice p m d, .slice q r e0] w fun e w' => e = .returned (.bool (bal l ds fs s M)) ∧ Below w.heap.size w w' := by
  have hM : M ≤ 8 := by have := (goodNet_get hg).1; omega
  have H := hid h
  have H' := hid h'
  have H'' := hid h''
  have G1 := hid hg
  have G3 := hid hd
  have G4 := hid hf
  clear h h' h'' hg hd hf
  have HX := hid (show Below w.heap.size w (w.alloc (.cells #[.int .i64 M, .slice a r c] 26)) ∧ (w.alloc (.cells #[.int .i64 M, .slice a r c] 26)).cell? ⟨w.heap.size, 0, none⟩ = some (.int .i64 M) ∧ (w.alloc (.cells #[.int .i64 M, .slice a r c] 26)).cell? ⟨w.heap.size, 1, none⟩ = some (.slice a r c) from ⟨(Below.refl _ _).alloc (Nat.le_refl _) _, cell_of_row _ _ 0 _ _ (0, 0) (heap_alloc_new _ _), cell_of_row _ _ 1 _ _ (0, 0) (heap_alloc_new _ _)⟩)
  go_enter Try.func82, Try.ntmps82
  go_wp2
  go_loopg [9] M (fun g i wr => ∃ k : Nat, k ≤ M ∧ g = M - k ∧ i = .int .i64 ((k : Int) + 1) ∧ Hid (Below w.heap.size w wr ∧ wr.cell? ⟨w.heap.size, 0, none⟩ = some (.int .i64 M) ∧ wr.cell? ⟨w.heap.size, 1, none⟩ = some (.slice a r c)) ∧ Hid (∀ j, j < k → imb l ds fs s ((j : Int) + 1) = 0))
  case atStart => exact ⟨0, Nat.zero_le _, rfl, rfl, HX, hid (fun j hj => absurd hj (by omega))⟩
  case round =>
    obtain ⟨k, hk, rfl, rfl, hB, hh⟩ := hrel
    obtain ⟨-, n0, n1⟩ := hB.out
    have hz0 : w.heap.size < wr.heap.size := World.block_lt_of_cell? wr _ n0
    by_cases hlt : k < M
    · go_wp2_with fail
      refine (s_l8Imbalance M s ((k : Int) + 1) _ _ _ _ _ _ _ _ l ds fs _ (H.out.below hB.out.1) (H'.out.below hB.out.1) (H''.out.below hB.out.1) G1.out G3.out G4.out (by omega)).mono ?_
      rintro e w2 ⟨rfl, hb2⟩
      have HC := hid (show Below w.heap.size w w2 ∧ w2.cell? ⟨w.heap.size, 0, none⟩ = some (.int .i64 M) ∧ w2.cell? ⟨w.heap.size, 1, none⟩ = _ from ⟨bstep hB.out.1 hb2, ((bcell hb2).1 _ _ hz0).trans n0, ((bcell hb2).1 _ _ hz0).trans n1⟩)
      clear n0 n1 hb2 hz0
      by_cases hi : imb l ds fs s ((k : Int) + 1) = 0
      · have hi' : (imb l ds fs s ((k : Int) + 1) != 0) = false := by simp [hi]
        have HI := hid hi
        clear hi
        go_wp2
        go_roundg (M - (k + 1))
        case rel =>
          refine ⟨k + 1, by omega, rfl, by go_num, HC, hid (fun j hj => ?_)⟩
          by_cases e : j = k
          · subst e; exact HI.out
          · exact hh.out j (by omega)
        case measure => omega
      · have hi' : (imb l ds fs s ((k : Int) + 1) != 0) = true := by simp [hi]
        have E := hid (show bal l ds fs s M = false from bal_no hlt hi)
        clear hi
        go_wp2
        go_ret
        rw [E.out]
        exact ⟨rfl, HC.out.1⟩
    · obtain rfl : k = M := by omega
      have E := hid (show bal l ds fs s k = true from bal_yes hh.out)
      go_wp2
      go_ret
      rw [E.out]
      exact ⟨rfl, hB.out.1⟩

set_option maxRecDepth 100000 in
set_option maxHeartbeats 2000000 in
theorem i_IsBalanced (N s : Int) (a p q : Option Addr) (n c m d r e0 : Nat) (l : List Pip) (ds fs : List Int) (w : World) (h : QAt w a n l) (h' : IntsAt w p m ds) (h'' : IntsAt w q r fs) (hn : n ≤ 1048576) (hm : m ≤ 1048576) (hr : r ≤ 1048576) (y : Bool) (z : Bool) (hR : balR N l s ds fs = (y, z)) :
    Calls Try.prog 13 #[.agg #[.int .i64 N, .slice a n c], .int .i64 s, .slice p m d, .slice q r e0] w fun e w' => e = .returned (.tuple #[.bool y, .bool z]) ∧ Below w.heap.size w w' := by
  have hl := h.1
  have H := hid h
  have H' := hid h'
  have H'' := hid h''
  clear h h' h''
  cases h1 : asks N l s ds fs
  · have H1 := hid h1
    have e1 : balR N l s ds fs = (false, false) := by simp [balR, h1]
    rw [e1] at hR
    cases hR
    clear h1 hl e1
    go_enter Try.func13, Try.ntmps13
    go_wp2_with fail
    refine (i_canFlow N s _ _ _ _ _ _ _ _ _ l ds fs _ (H.out.below (by go_grown)) (H'.out.below (by go_grown)) (H''.out.below (by go_grown)) hn hm (by omega)).mono ?_
    rintro e w1 ⟨rfl, hb1⟩
    rw [H1.out]
    obtain ⟨hc_w1, hf_w1⟩ := bcell hb1
    have hz_w1_0 : w.heap.size < w1.heap.size := by have := hb1.size; simp only [World.size_alloc] at this; omega
    have HB1 := hid (bstep (by go_grown) hb1 : Below w.heap.size w w1)
    go_wp2
    go_ret2
    exact ⟨rfl, HB1.out⟩
  · have H1 := hid h1
    obtain ⟨g1, g2, g3, g4⟩ := asks_iff h1
    rw [hl] at g4
    have hrn : r = n := by have := (goodFl_iff.1 g4).1; have := H''.out.1; omega
    subst hrn
    have hN := (goodNet_get g1).1
    obtain ⟨M, rfl⟩ : ∃ M : Nat, N = M := ⟨N.toNat, by omega⟩
    have G1 := hid g1
    have G3 := hid g3
    have G4 := hid g4
    have e1 : balR M l s ds fs = (bal l ds fs s M, true) := by simp [balR, h1]
    rw [e1] at hR
    cases hR
    have hM : M ≤ 8 := by omega
    clear h1 hl e1 g1 g2 g3 g4 hN
    go_enter Try.func13, Try.ntmps13
    go_wp2_with fail
    refine (i_canFlow M s _ _ _ _ _ _ _ _ _ l ds fs _ (H.out.below (by go_grown)) (H'.out.below (by go_grown)) (H''.out.below (by go_grown)) hn hm (by omega)).mono ?_
    rintro e w1 ⟨rfl, hb1⟩
    rw [H1.out]
    have n0 : w1.cell? ⟨w.heap.size, 0, none⟩ = some (.int .i64 M) := by rw [(bcell hb1).1 _ _ (by simp)]; exact cell_of_row _ _ 0 _ _ (0, 0) (heap_alloc_new _ _)
    have n1 := ((bcell hb1).1 w.heap.size 1 (by simp)).trans (cell_of_row _ _ 1 _ _ (0, 0) (heap_alloc_new _ _))
    simp only [List.getElem?_toArray, List.getElem?_cons_succ, List.getElem?_cons_zero] at n1
    have HX := hid (show Below w.heap.size w w1 ∧ w1.cell? ⟨w.heap.size, 0, none⟩ = some (.int .i64 M) ∧ w1.cell? ⟨w.heap.size, 1, none⟩ = some (.slice a r c) from ⟨bstep (by go_grown) hb1, n0, n1⟩)
    clear hb1
    go_wp2
    clear n0 n1
    go_loopg [10] M (fun g i wr => ∃ k : Nat, k ≤ M ∧ g = M - k ∧ i = .int .i64 ((k : Int) + 1) ∧ Hid (Below w.heap.size w wr ∧ wr.cell? ⟨w.heap.size, 0, none⟩ = some (.int .i64 M) ∧ wr.cell? ⟨w.heap.size, 1, none⟩ = some (.slice a r c)) ∧ Hid (∀ j, j < k → imb l ds fs s ((j : Int) + 1) = 0))
    case atStart => exact ⟨0, Nat.zero_le _, rfl, rfl, HX, hid (fun j hj => absurd hj (by omega))⟩
    case round =>
      obtain ⟨k, hk, rfl, rfl, hB, hh⟩ := hrel
      obtain ⟨-, n0, n1⟩ := hB.out
      have hz0 : w.heap.size < wr.heap.size := World.block_lt_of_cell? wr _ n0
      by_cases hlt : k < M
      · go_wp2_with fail
        refine (i_imbalanceAt M s ((k : Int) + 1) _ _ _ _ _ _ _ _ l ds fs _ (H.out.below hB.out.1) (H'.out.below hB.out.1) (H''.out.below hB.out.1) G1.out G3.out G4.out (by omega)).mono ?_
        rintro e w2 ⟨rfl, hb2⟩
        have HC := hid (show Below w.heap.size w w2 ∧ w2.cell? ⟨w.heap.size, 0, none⟩ = some (.int .i64 M) ∧ w2.cell? ⟨w.heap.size, 1, none⟩ = _ from ⟨bstep hB.out.1 hb2, ((bcell hb2).1 _ _ hz0).trans n0, ((bcell hb2).1 _ _ hz0).trans n1⟩)
        clear n0 n1 hb2 hz0
        by_cases hi : imb l ds fs s ((k : Int) + 1) = 0
        · have hi' : (imb l ds fs s ((k : Int) + 1) != 0) = false := by simp [hi]
          have HI := hid hi
          clear hi
          go_wp2
          go_roundg (M - (k + 1))
          case rel =>
            refine ⟨k + 1, by omega, rfl, by go_num, HC, hid (fun j hj => ?_)⟩
            by_cases e : j = k
            · subst e; exact HI.out
            · exact hh.out j (by omega)
          case measure => omega
        · have hi' : (imb l ds fs s ((k : Int) + 1) != 0) = true := by simp [hi]
          have E := hid (show bal l ds fs s M = false from bal_no hlt hi)
          clear hi
          go_wp2
          go_ret2
          rw [E.out]
          exact ⟨rfl, HC.out.1⟩
      · obtain rfl : k = M := by omega
        have E := hid (show bal l ds fs s k = true from bal_yes hh.out)
        go_wp2
        go_ret2
        rw [E.out]
        exact ⟨rfl, hB.out.1⟩
set_option maxRecDepth 100000 in
set_option maxHeartbeats 2000000 in
theorem s_IsBalanced (N s : Int) (a p q : Option Addr) (n c m d r e0 : Nat) (l : List Pip) (ds fs : List Int) (w : World) (h : QAt w a n l) (h' : IntsAt w p m ds) (h'' : IntsAt w q r fs) (hn : n ≤ 1048576) (hm : m ≤ 1048576) (hr : r ≤ 1048576) (y : Bool) (z : Bool) (hR : balR N l s ds fs = (y, z)) :
    Calls Try.prog 19 #[.agg #[.int .i64 N, .slice a n c], .int .i64 s, .slice p m d, .slice q r e0] w fun e w' => e = .returned (.tuple #[.bool y, .bool z]) ∧ Below w.heap.size w w' := by
  have hl := h.1
  have H := hid h
  have H' := hid h'
  have H'' := hid h''
  clear h h' h''
  cases h1 : asks N l s ds fs
  · have H1 := hid h1
    have e1 : balR N l s ds fs = (false, false) := by simp [balR, h1]
    rw [e1] at hR
    cases hR
    clear h1 hl e1
    go_enter Try.func19, Try.ntmps19
    go_wp2_with fail
    refine (s_l8Asked N s _ _ _ _ _ _ _ _ _ l ds fs _ (H.out.below (by go_grown)) (H'.out.below (by go_grown)) (H''.out.below (by go_grown)) hn hm (by omega)).mono ?_
    rintro e w1 ⟨rfl, hb1⟩
    rw [H1.out]
    obtain ⟨hc_w1, hf_w1⟩ := bcell hb1
    have hz_w1_0 : w.heap.size < w1.heap.size := by have := hb1.size; simp only [World.size_alloc] at this; omega
    have HB1 := hid (bstep (by go_grown) hb1 : Below w.heap.size w w1)
    go_wp2
    go_ret2
    exact ⟨rfl, HB1.out⟩
  · have H1 := hid h1
    obtain ⟨g1, g2, g3, g4⟩ := asks_iff h1
    rw [hl] at g4
    have hrn : r = n := by have := (goodFl_iff.1 g4).1; have := H''.out.1; omega
    subst hrn
    have hN := (goodNet_get g1).1
    obtain ⟨M, rfl⟩ : ∃ M : Nat, N = M := ⟨N.toNat, by omega⟩
    have G1 := hid g1
    have G3 := hid g3
    have G4 := hid g4
    have e1 : balR M l s ds fs = (bal l ds fs s M, true) := by simp [balR, h1]
    rw [e1] at hR
    cases hR
    have hM : M ≤ 8 := by omega
    clear h1 hl e1 g1 g2 g3 g4 hN
    go_enter Try.func19, Try.ntmps19
    go_wp2_with fail
    refine (s_l8Asked M s _ _ _ _ _ _ _ _ _ l ds fs _ (H.out.below (by go_grown)) (H'.out.below (by go_grown)) (H''.out.below (by go_grown)) hn hm (by omega)).mono ?_
    rintro e w1 ⟨rfl, hb1⟩
    rw [H1.out]
    obtain ⟨hc_w1, hf_w1⟩ := bcell hb1
    have hz_w1_0 : w.heap.size < w1.heap.size := by have := hb1.size; simp only [World.size_alloc] at this; omega
    have HB1 := hid (bstep (by go_grown) hb1 : Below w.heap.size w w1)
    go_wp2_with fail
    refine (s_l8Balanced M s _ _ _ _ _ _ _ _ l ds fs _ (H.out.below HB1.out) (H'.out.below HB1.out) (H''.out.below HB1.out) G1.out G3.out G4.out).mono ?_
    rintro e w2 ⟨rfl, hb2⟩
    go_wp2
    go_ret2
    exact ⟨rfl, bstep HB1.out hb2⟩

end Go.Proofs.Ytlnhikhpkcgegaa

/-
  With the flows of a tree the water balances; the imbalances of all nodes together are nothing (plain).
-/
set_option linter.unusedVariables false
set_option linter.unusedSimpArgs false
namespace Go.Proofs.Ytlnhikhpkcgegaa
open Go.RowKit

/-- A sum of the first values. -/
def sm (f : Nat → Int) : Nat → Int
  | 0 => 0
  | n + 1 => sm f n + f n
theorem sm_ext {f g : Nat → Int} : ∀ n, (∀ k, k < n → f k = g k) → sm f n = sm g n
  | 0, _ => rfl
  | n + 1, h => by simp only [sm]; rw [sm_ext n (fun k hk => h k (by omega)), h n (by omega)]
theorem sm_add (f g : Nat → Int) : ∀ n, sm (fun k => f k + g k) n = sm f n + sm g n
  | 0 => rfl
  | n + 1 => by simp only [sm]; rw [sm_add f g n]; omega
theorem sm_mul (f : Nat → Int) (c : Int) : ∀ n, sm (fun k => f k * c) n = sm f n * c
  | 0 => by simp [sm]
  | n + 1 => by simp only [sm]; rw [sm_mul f c n, Int.add_mul]
theorem sm_zero {f : Nat → Int} : ∀ n, (∀ k, k < n → f k = 0) → sm f n = 0
  | 0, _ => rfl
  | n + 1, h => by simp only [sm]; rw [sm_zero n (fun k hk => h k (by omega)), h n (by omega)]; rfl
theorem sm_one {f g : Nat → Int} {j : Nat} : ∀ n, j < n → (∀ k, k < n → k ≠ j → f k = g k) → sm f n = sm g n + (f j - g j)
  | 0, h, _ => absurd h (by omega)
  | n + 1, hj, h => by
    simp only [sm]
    by_cases e : j = n
    · subst e
      rw [sm_ext j (fun k hk => h k (by omega) (by omega))]
      omega
    · rw [sm_one n (by omega) (fun k hk hne => h k (by omega) hne), h n (by omega) (fun e2 => e e2.symm)]
      omega
theorem sm_list (f : Nat → Int) : ∀ n, ((List.range n).map f).sum = sm f n
  | 0 => rfl
  | n + 1 => by simp only [sm]; rw [← sm_list f n]; simp [List.range_succ]
theorem sm_swap (f : Nat → Nat → Int) (n : Nat) : ∀ m, sm (fun i => sm (f i) n) m = sm (fun k => sm (fun i => f i k) m) n
  | 0 => by simp only [sm]; exact (sm_zero n (fun _ _ => rfl)).symm
  | m + 1 => by simp only [sm]; rw [sm_swap f n m, ← sm_add]
/-- A node is cut off by a pipe. -/
noncomputable def cutK (l : List Pip) (s : Int) (k : Nat) (u : Int) : Int := if 0 ≤ far l (pp l k).1 s u then 0 else 1
noncomputable def dirK (l : List Pip) (s : Int) (k : Nat) : Int := if 0 ≤ far l (pp l k).1 s (pp l k).2.2.1 then -1 else 1
def cof (l : List Pip) (x : Int) (k : Nat) : Int := if x = (pp l k).2.2.1 then 1 else if x = (pp l k).2.1 then -1 else 0
theorem inflow_cof (l : List Pip) (fs : List Int) (x : Int) (k : Nat) : inflow l fs x k = cof l x k * fs[k]?.getD 0 := by
  unfold inflow cof
  split
  · omega
  · split <;> omega
theorem tree_under {N : Int} {l : List Pip} {s u : Int} {i : Nat} (hg : goodNet N l = true) (ht : treeB N l = true) (hs : 1 ≤ s ∧ s ≤ N) (hi : BackK l 0 s u i) : ∀ (d : Nat) (v : Int), 1 ≤ v → v ≤ N → far l 0 s v = d → (d : Int) < far l 0 s u → 0 ≤ far l (pp l i).1 s v := by
  intro d
  induction d with
  | zero =>
    intro v v1 v2 hv hlt
    have := (far_is (wo := 0) (s := s) hg).only v v1 v2 (by omega)
    subst this
    rw [far_self hg]
    omega
  | succ d ih =>
    intro v v1 v2 hv hlt
    obtain ⟨k, hk⟩ := tree_back hg ht hs v1 v2 (fun e => by subst e; rw [far_self hg] at hv; omega)
    have hne : k ≠ i := fun e => by
      subst e
      have := backK_inj hk hi
      subst this
      omega
    obtain ⟨hk1, -, x, ho, hx, hu⟩ := hk
    obtain ⟨⟨u1, u2⟩, -, -, -⟩ := okQ_ends hg hk1 ho hx
    have := ih x u1 u2 (by omega) (by omega)
    exact ((far_is (wo := (pp l i).1) (s := s) hg).step x v ⟨k, hk1, ids_ne hg hi.1 hk1 hne, ho, hx⟩ this).1
theorem cut_same {N : Int} {l : List Pip} {s u v : Int} {k : Nat} (hg : goodNet N l = true) (he : Edge l (pp l k).1 u v) : cutK l s k u = cutK l s k v := by
  have hd := far_is (wo := (pp l k).1) (s := s) hg
  unfold cutK
  by_cases h : 0 ≤ far l (pp l k).1 s u
  · rw [if_pos h, if_pos (hd.step u v he h).1]
  · rw [if_neg h, if_neg (fun h2 => h (hd.step v u (he.symm hg) h2).1)]
/-- One unit to a node: what it brings to each. -/
theorem unit_flow {N : Int} {l : List Pip} {s x : Int} (hg : goodNet N l = true) (ht : treeB N l = true) (hs : 1 ≤ s ∧ s ≤ N) : ∀ (d : Nat) (u : Int), 1 ≤ u → u ≤ N → far l 0 s u = d →
    sm (fun k => cof l x k * dirK l s k * cutK l s k u) l.length = (if u = x then 1 else 0) - (if x = s then 1 else 0) := by
  intro d
  induction d with
  | zero =>
    intro u u1 u2 hu
    have := (far_is (wo := 0) (s := s) hg).only u u1 u2 (by omega)
    subst this
    rw [sm_zero]
    · by_cases e : u = x
      · subst e; simp
      · rw [if_neg e, if_neg (fun e2 => e e2.symm)]; rfl
    · intro k hk
      have h0 : cutK l u k u = 0 := by unfold cutK; rw [far_self hg]; simp
      show cof l x k * dirK l u k * cutK l u k u = 0
      rw [h0, Int.mul_zero]
  | succ d ih =>
    intro u u1 u2 hu
    obtain ⟨j, hj⟩ := tree_back hg ht hs u1 u2 (fun e => by subst e; rw [far_self hg] at hu; omega)
    have hjj := hj
    obtain ⟨hj1, -, y, ho, hx, hy⟩ := hjj
    obtain ⟨⟨y1, y2⟩, -, hne, hoy⟩ := okQ_ends hg hj1 ho hx
    have hcy : 0 ≤ far l (pp l j).1 s y := tree_under hg ht hs hj d y y1 y2 (by omega) (by omega)
    have hb := tree_bridge hg ht hs hj1
    have hpe := (goodNet_pipe hg hj1).2.2.2.1
    rw [sm_one (f := fun k => cof l x k * dirK l s k * cutK l s k u) (g := fun k => cof l x k * dirK l s k * cutK l s k y) (j := j) l.length hj1 (fun k hk hne2 => by
      show cof l x k * dirK l s k * cutK l s k u = cof l x k * dirK l s k * cutK l s k y
      rw [cut_same hg ⟨j, hj1, ids_ne hg hk hj1 (fun e => hne2 e.symm), ho, hx⟩]), ih y y1 y2 (by omega)]
    have hcyy : cutK l s j y = 0 := by unfold cutK; rw [if_pos hcy]
    show _ + (cof l x j * dirK l s j * cutK l s j u - cof l x j * dirK l s j * cutK l s j y) = _
    rw [hcyy, Int.mul_zero]
    rcases oth_ends ho hx with ⟨a, b⟩ | ⟨a, b⟩
    · have hcu : ¬ 0 ≤ far l (pp l j).1 s u := by rw [b]; rw [a] at hcy; exact hb.1 hcy
      have e1 : cutK l s j u = 1 := by unfold cutK; rw [if_neg hcu]
      have e2 : dirK l s j = 1 := by unfold dirK; rw [← b, if_neg hcu]
      rw [e1, e2]
      unfold cof
      rw [← a, ← b]
      clear ih hu hj ho hy hoy hcy hb hcyy a b hcu e1 e2
      repeat' split
      all_goals omega
    · have hcu : ¬ 0 ≤ far l (pp l j).1 s u := by rw [b]; rw [a] at hcy; exact fun h => hb.1 h hcy
      have e1 : cutK l s j u = 1 := by unfold cutK; rw [if_neg hcu]
      have e2 : dirK l s j = -1 := by unfold dirK; rw [← a, if_pos hcy]
      rw [e1, e2]
      unfold cof
      rw [← a, ← b]
      clear ih hu hj ho hy hoy hcy hb hcyy a b hcu e1 e2
      repeat' split
      all_goals omega
theorem dsum_cut {M : Nat} {l : List Pip} {s : Int} {ds : List Int} {k m : Nat} (hm : m < M) : dsum (distL M l (pp l k).1 s) ds (m + 1) = dsum (distL M l (pp l k).1 s) ds m + cutK l s k ((m : Int) + 1) * ds[m]?.getD 0 := by
  have e : (distL M l (pp l k).1 s)[m + 1]?.getD 0 = far l (pp l k).1 s ((m : Int) + 1) := by
    rw [distL_at (by omega) (by omega)]; rfl
  by_cases h : 0 ≤ far l (pp l k).1 s ((m : Int) + 1)
  · rw [dsum_no (by omega)]
    unfold cutK
    rw [if_pos h]
    omega
  · rw [dsum_yes (by omega)]
    unfold cutK
    rw [if_neg h]
    omega
theorem tflow_dir {M : Nat} {l : List Pip} {s : Int} {ds : List Int} {k : Nat} (hg : goodNet M l = true) (hk : k < l.length) : tflow M l s ds k = dirK l s k * dsum (distL M l (pp l k).1 s) ds M := by
  obtain ⟨-, -, p2, -, -⟩ := goodNet_pipe hg hk
  have e : (distL M l (pp l k).1 s)[(pp l k).2.2.1.toNat]?.getD 0 = far l (pp l k).1 s (pp l k).2.2.1 := by
    rw [distL_at (by omega) (by omega), show (((pp l k).2.2.1.toNat : Nat) : Int) = (pp l k).2.2.1 by omega]
  unfold tflow dirK
  rw [e]
  by_cases h : 0 ≤ far l (pp l k).1 s (pp l k).2.2.1
  · rw [if_neg (by omega), if_pos h]; omega
  · rw [if_pos (by omega), if_neg h]; omega
theorem tree_sums {M : Nat} {l : List Pip} {s x : Int} {ds : List Int} (hg : goodNet M l = true) (ht : treeB M l = true) (hs : 1 ≤ s ∧ s ≤ M) (hx : 1 ≤ x) : ∀ m, m ≤ M →
    sm (fun k => cof l x k * dirK l s k * dsum (distL M l (pp l k).1 s) ds m) l.length = (if x ≤ m then ds[x.toNat - 1]?.getD 0 else 0) - (if x = s then sm (fun j => ds[j]?.getD 0) m else 0)
  | 0, _ => by
    rw [sm_zero _ (fun k hk => by show _ * dsum _ _ 0 = 0; simp [dsum]), if_neg (by omega)]
    split <;> rfl
  | m + 1, hm => by
    have ih := tree_sums (ds := ds) hg ht hs hx m (by omega)
    have hc : 0 ≤ far l 0 s ((m : Int) + 1) := ((treeB_iff hg).1 ht).2 s _ hs.1 hs.2 (by omega) (by omega)
    have hu := unit_flow (x := x) hg ht hs (far l 0 s ((m : Int) + 1)).toNat ((m : Int) + 1) (by omega) (by omega) (by omega)
    rw [sm_ext l.length (g := fun k => cof l x k * dirK l s k * dsum (distL M l (pp l k).1 s) ds m + cof l x k * dirK l s k * cutK l s k ((m : Int) + 1) * ds[m]?.getD 0) (fun k hk => by
      show cof l x k * dirK l s k * dsum (distL M l (pp l k).1 s) ds (m + 1) = _
      rw [dsum_cut (by omega), Int.mul_add, Int.mul_assoc (cof l x k * dirK l s k)]), sm_add, ih, sm_mul, hu]
    simp only [sm]
    by_cases e1 : (m : Int) + 1 = x
    · rw [show x.toNat - 1 = m by omega]
      rw [if_pos e1, Int.sub_mul, Int.one_mul]
      generalize sm (fun j => ds[j]?.getD 0) m = Q
      generalize ds[m]?.getD 0 = R
      repeat' split
      all_goals omega
    · rw [if_neg e1, Int.sub_mul, Int.zero_mul]
      generalize sm (fun j => ds[j]?.getD 0) m = Q
      generalize ds[x.toNat - 1]?.getD 0 = R2
      generalize ds[m]?.getD 0 = R
      repeat' split
      all_goals omega
theorem sm_sum : ∀ (ds : List Int) (m : Nat), m = ds.length → sm (fun j => ds[j]?.getD 0) m = ds.sum := by
  intro ds m hm
  subst hm
  have : ∀ k, k ≤ ds.length → sm (fun j => ds[j]?.getD 0) k = (ds.take k).sum := by
    intro k
    induction k with
    | zero => intro _; simp [sm]
    | succ k ih => intro hk; simp only [sm]; rw [ih (by omega), sum_take_succ ds k (by omega)]
  rw [this _ (Nat.le_refl _), List.take_of_length_le (Nat.le_refl _)]
theorem tflows_get {M : Nat} {l : List Pip} {s : Int} {ds : List Int} {n k : Nat} (hk : k < n) : (tflows M l s ds n)[k]?.getD 0 = tflow M l s ds k := by simp [tflows, hk]
/-- With the flows of a tree no node has an imbalance. -/
theorem tree_imb {M : Nat} {l : List Pip} {s x : Int} {ds : List Int} (hg : goodNet M l = true) (ht : treeB M l = true) (hs : 1 ≤ s ∧ s ≤ M) (hd : ds.length = M) (hx : 1 ≤ x ∧ x ≤ M) : imb l ds (tflows M l s ds l.length) s x = 0 := by
  have h1 : net l (tflows M l s ds l.length) x l.length = sm (fun k => cof l x k * dirK l s k * dsum (distL M l (pp l k).1 s) ds M) l.length := by
    unfold net
    rw [sm_list]
    refine sm_ext _ (fun k hk => ?_)
    rw [inflow_cof, tflows_get hk, tflow_dir hg hk, Int.mul_assoc]
  unfold imb own
  rw [h1, tree_sums hg ht hs hx.1 M (Nat.le_refl _), if_pos hx.2, sm_sum ds M hd.symm]
  split <;> omega
theorem tree_bal {M : Nat} {l : List Pip} {s : Int} {ds : List Int} (hg : goodNet M l = true) (ht : treeB M l = true) (hs : 1 ≤ s ∧ s ≤ M) (hd : ds.length = M) : bal l ds (tflows M l s ds l.length) s M = true :=
  bal_yes (fun k hk => tree_imb hg ht hs hd (by omega))

/-- The imbalances of all nodes together are nothing. -/
theorem cof_all {l : List Pip} {k : Nat} {N : Int} (hg : goodNet N l = true) (hk : k < l.length) : ∀ m : Nat, sm (fun i => cof l ((i : Int) + 1) k) m = (if (pp l k).2.2.1 ≤ m then 1 else 0) - (if (pp l k).2.1 ≤ m then 1 else 0)
  | 0 => by
    obtain ⟨-, p1, p2, -, -⟩ := goodNet_pipe hg hk
    rw [if_neg (by omega), if_neg (by omega)]; rfl
  | m + 1 => by
    obtain ⟨-, p1, p2, hne, -⟩ := goodNet_pipe hg hk
    simp only [sm]
    rw [cof_all hg hk m]
    unfold cof
    clear hg hk
    repeat' split
    all_goals omega
theorem own_all {ds : List Int} {s : Int} (hs : 1 ≤ s) : ∀ m : Nat, sm (fun i => own ds s ((i : Int) + 1)) m = -(sm (fun j => ds[j]?.getD 0) m) + (if s ≤ m then ds.sum else 0)
  | 0 => by simp only [sm]; rw [if_neg (by omega)]; rfl
  | m + 1 => by
    simp only [sm]
    rw [own_all hs m]
    unfold own
    rw [show ((m : Int) + 1).toNat - 1 = m by omega]
    generalize sm (fun j => ds[j]?.getD 0) m = Q
    repeat' split
    all_goals omega
theorem imb_all {M : Nat} {l : List Pip} {s : Int} {ds fs : List Int} (hg : goodNet M l = true) (hs : 1 ≤ s ∧ s ≤ M) (hd : ds.length = M) : sm (fun i => imb l ds fs s ((i : Int) + 1)) M = 0 := by
  have e : sm (fun i => imb l ds fs s ((i : Int) + 1)) M = sm (fun i => own ds s ((i : Int) + 1)) M + sm (fun i => net l fs ((i : Int) + 1) l.length) M := by
    rw [← sm_add]; rfl
  have e2 : sm (fun i : Nat => net l fs ((i : Int) + 1) l.length) M = 0 := by
    rw [sm_ext (g := fun i : Nat => sm ((fun (i k : Nat) => cof l ((i : Int) + 1) k * fs[k]?.getD 0) i) l.length) M (fun i hi => by
      show net l fs ((i : Int) + 1) l.length = _
      unfold net
      rw [sm_list]
      exact sm_ext _ (fun k hk => inflow_cof _ _ _ _)), sm_swap]
    refine sm_zero _ (fun k hk => ?_)
    obtain ⟨-, p1, p2, -, -⟩ := goodNet_pipe hg hk
    rw [sm_mul (fun i => cof l ((i : Int) + 1) k), cof_all hg hk M, if_pos p2.2, if_pos p1.2]
    omega
  rw [e, e2, own_all hs.1 M, if_pos hs.2, sm_sum ds M hd.symm]
  omega

end Go.Proofs.Ytlnhikhpkcgegaa

/-
  The reference's steps, in plain lists: level by level.
-/
set_option linter.unusedVariables false
set_option linter.unusedSimpArgs false
namespace Go.Proofs.Ytlnhikhpkcgegaa
open Go.RowKit

/-- A pipe joins a node with one of a level. -/
def HitP (l : List Pip) (f : Int → Int) (st : Nat) (v : Int) (j : Nat) : Prop := (v = (pp l j).2.1 ∧ f (pp l j).2.2.1 = st) ∨ (v = (pp l j).2.2.1 ∧ f (pp l j).2.1 = st)
/-- What the row holds at a node within a level. -/
noncomputable def lev (l : List Pip) (f : Int → Int) (st i : Nat) (v : Int) : Int := by
  classical
  exact if 0 ≤ f v ∧ f v ≤ st then f v else if f v = st + 1 ∧ ∃ j, j < i ∧ HitP l f st v j then st + 1 else -1
theorem lev_in {l : List Pip} {f : Int → Int} {st i : Nat} {v : Int} (h : 0 ≤ f v ∧ f v ≤ st) : lev l f st i v = f v := by unfold lev; rw [if_pos h]
theorem lev_hit {l : List Pip} {f : Int → Int} {st i : Nat} {v : Int} (h1 : f v = st + 1) (h2 : ∃ j, j < i ∧ HitP l f st v j) : lev l f st i v = st + 1 := by
  unfold lev
  rw [if_neg (by omega), if_pos ⟨h1, h2⟩]
theorem lev_out {l : List Pip} {f : Int → Int} {st i : Nat} {v : Int} (h1 : ¬ (0 ≤ f v ∧ f v ≤ st)) (h2 : ¬ (f v = st + 1 ∧ ∃ j, j < i ∧ HitP l f st v j)) : lev l f st i v = -1 := by
  unfold lev
  rw [if_neg h1, if_neg h2]
theorem lev_eq_st {l : List Pip} {f : Int → Int} {st i : Nat} {v : Int} : lev l f st i v = st ↔ f v = st := by
  by_cases h1 : 0 ≤ f v ∧ f v ≤ st
  · rw [lev_in h1]
  · by_cases h2 : f v = st + 1 ∧ ∃ j, j < i ∧ HitP l f st v j
    · rw [lev_hit h2.1 h2.2]; omega
    · rw [lev_out h1 h2]; omega
theorem lev_same {l : List Pip} {f : Int → Int} {st i : Nat} {v : Int} (h : f v = st + 1 → HitP l f st v i → ∃ j, j < i ∧ HitP l f st v j) : lev l f st (i + 1) v = lev l f st i v := by
  by_cases h1 : 0 ≤ f v ∧ f v ≤ st
  · rw [lev_in h1, lev_in h1]
  · by_cases h2 : f v = st + 1 ∧ ∃ j, j < i ∧ HitP l f st v j
    · obtain ⟨a, j, b, c⟩ := h2
      rw [lev_hit a ⟨j, b, c⟩, lev_hit a ⟨j, by omega, c⟩]
    · rw [lev_out h1 h2, lev_out h1]
      rintro ⟨a, j, b, c⟩
      apply h2
      by_cases e : j = i
      · subst e; exact ⟨a, h a c⟩
      · exact ⟨a, j, by omega, c⟩

structure Row (M : Nat) (l : List Pip) (f : Int → Int) (st i : Nat) (L : List Int) : Prop where
  len : L.length = M + 1
  zero : L[0]?.getD 0 = -1
  at' : ∀ v : Nat, 1 ≤ v → v ≤ M → L[v]?.getD 0 = lev l f st i v
theorem Row.no {M : Nat} {l : List Pip} {f : Int → Int} {st i : Nat} {L : List Int} (h : Row M l f st i L) {a b : Nat} (ha : (pp l i).2.1 = a) (hb : (pp l i).2.2.1 = b) (ha1 : 1 ≤ a ∧ a ≤ M) (hb1 : 1 ≤ b ∧ b ≤ M)
    (h1 : L[a]?.getD 0 = st → ¬ L[b]?.getD 0 < 0) (h2 : L[b]?.getD 0 = st → ¬ L[a]?.getD 0 < 0) : Row M l f st (i + 1) L := by
  refine ⟨h.len, h.zero, fun v hv1 hv2 => ?_⟩
  rw [h.at' v hv1 hv2]
  symm
  apply lev_same
  intro hf hp
  apply Classical.byContradiction
  intro hn
  have hout : lev l f st i v = -1 := lev_out (by omega) (fun e => hn e.2)
  rw [h.at' a ha1.1 ha1.2, h.at' b hb1.1 hb1.2, lev_eq_st] at h1
  rw [h.at' a ha1.1 ha1.2, h.at' b hb1.1 hb1.2, lev_eq_st] at h2
  rcases hp with ⟨e1, e2⟩ | ⟨e1, e2⟩
  · rw [ha] at e1
    rw [hb] at e2
    have := h2 e2
    rw [← e1, hout] at this
    omega
  · rw [hb] at e1
    rw [ha] at e2
    have := h1 e2
    rw [← e1, hout] at this
    omega
theorem Row.yes {M : Nat} {l : List Pip} {t : Int} {st i : Nat} {L : List Int} (hg : goodNet M l = true) (h : Row M l (far l 0 t) st i L) {x y : Nat} (hx1 : 1 ≤ x ∧ x ≤ M) (hy1 : 1 ≤ y ∧ y ≤ M) (he : Edge l 0 x y) (hp : HitP l (far l 0 t) st y i) (hxy : ∀ v : Int, HitP l (far l 0 t) st v i → v = y)
    (h1 : L[x]?.getD 0 = st) (h2 : L[y]?.getD 0 < 0) : Row M l (far l 0 t) st (i + 1) (L.set y ((st : Int) + 1)) := by
  rw [h.at' x hx1.1 hx1.2, lev_eq_st] at h1
  rw [h.at' y hy1.1 hy1.2] at h2
  have hs := (far_is (wo := 0) (s := t) hg).step x y he (by omega)
  have hfy : far l 0 t y = st + 1 := by
    apply Classical.byContradiction
    intro hn
    rw [lev_in (by omega)] at h2
    omega
  refine ⟨by rw [List.length_set]; exact h.len, by rw [List.getElem?_set_ne (by omega)]; exact h.zero, fun v hv1 hv2 => ?_⟩
  by_cases e : v = y
  · subst e
    rw [List.getElem?_set_self (by rw [h.len]; omega), lev_hit hfy ⟨i, by omega, hp⟩]
    rfl
  · rw [List.getElem?_set_ne (by omega), h.at' v hv1 hv2]
    symm
    apply lev_same
    intro _ hp2
    have := hxy v hp2
    omega
theorem Row.start {M : Nat} {l : List Pip} {t : Nat} {L : List Int} (hg : goodNet M l = true) (ht : 1 ≤ t ∧ t ≤ M) (hl : L.length = M + 1) (h : ∀ v : Nat, v ≤ M → L[v]?.getD 0 = -1) : Row M l (far l 0 t) 0 0 (L.set t 0) := by
  refine ⟨by rw [List.length_set]; exact hl, by rw [List.getElem?_set_ne (by omega)]; exact h 0 (by omega), fun v hv1 hv2 => ?_⟩
  by_cases e : v = t
  · subst e
    rw [List.getElem?_set_self (by omega), lev_in (by rw [far_self hg]; omega), far_self hg]
    rfl
  · rw [List.getElem?_set_ne (by omega), h v hv2, lev_out]
    · intro hc
      have := (far_is (wo := 0) (s := (t : Int)) hg).only v (by omega) (by omega) (by omega)
      omega
    · rintro ⟨-, j, hj, -⟩
      omega
theorem Row.next {M : Nat} {l : List Pip} {t : Int} {st : Nat} {L : List Int} (hg : goodNet M l = true) (h : Row M l (far l 0 t) st l.length L) : Row M l (far l 0 t) (st + 1) 0 L := by
  refine ⟨h.len, h.zero, fun v hv1 hv2 => ?_⟩
  rw [h.at' v hv1 hv2]
  by_cases h1 : 0 ≤ far l 0 t v ∧ far l 0 t v ≤ st
  · rw [lev_in h1, lev_in (by omega)]
  · by_cases h2 : far l 0 t v = st + 1
    · obtain ⟨u, ⟨k, hk, -, ho, hx⟩, hu⟩ := (far_is (wo := 0) (s := t) hg).back v (by omega) (by omega) (by omega)
      rw [lev_hit h2 ⟨k, hk, by
        rcases oth_ends ho hx with ⟨a, b⟩ | ⟨a, b⟩
        · right; exact ⟨b, by rw [← a]; omega⟩
        · left; exact ⟨b, by rw [← a]; omega⟩⟩, lev_in (by omega)]
      omega
    · rw [lev_out h1 (fun e => h2 e.1), lev_out (by omega)]
      rintro ⟨-, j, hj, -⟩
      omega
theorem Row.done {M : Nat} {l : List Pip} {t : Int} {L : List Int} (hg : goodNet M l = true) (ht : 1 ≤ t ∧ t ≤ M) (h : Row M l (far l 0 t) M 0 L) : L = distL M l 0 t := by
  have hd : (distL M l 0 t).length = M + 1 := by simp [distL]
  apply List.ext_getElem?
  intro v
  by_cases hv : v ≤ M
  · have e : L[v]?.getD 0 = (distL M l 0 t)[v]?.getD 0 := by
      by_cases h0 : v = 0
      · subst h0
        rw [h.zero, distL_zero]
      · rw [h.at' v (by omega) hv, distL_at (by omega) (by omega)]
        have hlt := far_lt (wo := 0) (v := (v : Int)) hg ht (by omega) (by omega)
        by_cases hf : 0 ≤ far l 0 t v
        · rw [lev_in (by omega)]
        · rw [lev_out (by omega) (by omega)]
          have := (far_is (wo := 0) (s := t) hg).low v (by omega) (by omega)
          omega
    rw [List.getElem?_eq_getElem (by rw [h.len]; omega), List.getElem?_eq_getElem (by omega)] at e ⊢
    simpa using e
  · rw [List.getElem?_eq_none (by rw [h.len]; omega), List.getElem?_eq_none (by omega)]

end Go.Proofs.Ytlnhikhpkcgegaa

