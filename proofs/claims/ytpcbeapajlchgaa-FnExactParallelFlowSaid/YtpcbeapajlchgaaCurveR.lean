/-
  Curves: a raised curve.
-/
import Derived.Test.YtpcbeapajlchgaaCurveC
import Derived.Test.YtpcbeapajlchgaaSOne
import Derived.Deep.RegionHeld3
import Derived.Deep.AppendLies
set_option linter.unusedVariables false
set_option linter.unusedSimpArgs false
namespace Go.Proofs.Ytpcbeapajlchgaa
open Go.RowKit

def raised (l : List Pt) (h : Int) : List Pt := l.map fun p => (p.1, p.2 + h)
theorem raised_len (l : List Pt) (h : Int) : (raised l h).length = l.length := by simp [raised]
theorem raised_succ (l : List Pt) (h : Int) (k : Nat) (hk : k < l.length) : raised (l.take (k + 1)) h = raised (l.take k) h ++ [((pt l k).1, (pt l k).2 + h)] := by
  rw [takeS k hk, raised, List.map_append]
  rfl
/-- What RaiseCurve returns. -/
def raiseR (l : List Pt) (h : Int) : List Pt × Bool := if goodCurve l = true ∧ inR h (-1000) 1000 = true ∧ goodCurve (raised l h) = true then (raised l h, true) else ([], false)

theorem good_in {l : List Pt} (h : goodCurve l = true) (k : Nat) (hk : k < l.length) : (0 ≤ (pt l k).1 ∧ (pt l k).1 ≤ 1000) ∧ (0 ≤ (pt l k).2 ∧ (pt l k).2 ≤ 1000) := by
  simp only [goodCurve, Bool.and_eq_true, List.all_eq_true, List.mem_range] at h
  have := h.2 k hk
  simp only [okAt, Bool.and_eq_true] at this
  exact ⟨inR_iff.1 this.1.1, inR_iff.1 this.1.2⟩
theorem good_lens {l : List Pt} (h : goodCurve l = true) : 2 ≤ l.length ∧ l.length ≤ 6 := by
  simp only [goodCurve, Bool.and_eq_true] at h
  have := inR_iff.1 h.1.1
  omega

theorem raiseR_len {l R : List Pt} {h : Int} {b : Bool} (e : raiseR l h = (R, b)) : R.length ≤ 6 := by
  unfold raiseR at e
  split at e
  · rename_i hh
    cases e
    exact (good_lens hh.2.2).2
  · cases e
    exact Nat.zero_le _

theorem i_RaiseCurve_no (a : Option Addr) (n c : Nat) (hd : Int) (l : List Pt) (w : World) (h : PAt w a n l) (hn : n ≤ 1048576) (hv : (goodCurve l && inR hd (-1000) 1000) = false) :
    Calls Try.prog 21 #[.slice a n c, .int .i64 hd] w fun e w' => ∃ a' c', e = .returned (.tuple #[.slice a' 0 c', .bool false]) ∧ OwnP w' w.heap.size (.slice a' 0 c') [] ∧ Below w.heap.size w w' := by
  have H := hid h
  clear h
  cases h1 : goodCurve l
  · have HG := hid h1
    clear h1 hv
    go_enter Try.func21, Try.ntmps21
    go_wp2_with fail
    refine (i_IsValidCurve _ _ _ l _ (H.out.below (by go_grown)) (by omega)).mono ?_
    rintro e w1 ⟨rfl, hb1⟩
    rw [HG.out]
    go_wp2
    go_ret2
    first
      | exact ⟨_, _, rfl, OwnS.nil _ _, hb1⟩
      | exact ⟨_, _, rfl, (OwnS.lit0 w).below hb1, bstep ((Below.refl _ _).alloc (Nat.le_refl _) _) hb1⟩
  · have HG := hid h1
    have HR : Hid (inR hd (-1000) 1000 = false) := hid (by rw [h1] at hv; exact hv)
    clear h1 hv
    go_enter Try.func21, Try.ntmps21
    go_wp2_with fail
    refine (i_IsValidCurve _ _ _ l _ (H.out.below (by go_grown)) (by omega)).mono ?_
    rintro e w1 ⟨rfl, hb1⟩
    rw [HG.out]
    go_wp2_with fail
    refine (i_inside _ _ _ _).mono ?_
    rintro e _ ⟨rfl, rfl⟩
    rw [HR.out]
    go_wp2
    go_ret2
    first
      | exact ⟨_, _, rfl, OwnS.nil _ _, hb1⟩
      | exact ⟨_, _, rfl, (OwnS.lit0 w).below hb1, bstep ((Below.refl _ _).alloc (Nat.le_refl _) _) hb1⟩
theorem s_RaiseCurve_no (a : Option Addr) (n c : Nat) (hd : Int) (l : List Pt) (w : World) (h : PAt w a n l) (hn : n ≤ 1048576) (hv : (goodCurve l && inR hd (-1000) 1000) = false) :
    Calls Try.prog 20 #[.slice a n c, .int .i64 hd] w fun e w' => ∃ a' c', e = .returned (.tuple #[.slice a' 0 c', .bool false]) ∧ OwnP w' w.heap.size (.slice a' 0 c') [] ∧ Below w.heap.size w w' := by
  have H := hid h
  clear h
  cases h1 : goodCurve l
  · have HG := hid h1
    clear h1 hv
    go_enter Try.func20, Try.ntmps20
    go_wp2_with fail
    refine (s_l7Good _ _ _ l _ (H.out.below (by go_grown)) (by omega)).mono ?_
    rintro e w1 ⟨rfl, hb1⟩
    rw [HG.out]
    go_wp2
    go_ret2
    first
      | exact ⟨_, _, rfl, OwnS.nil _ _, hb1⟩
      | exact ⟨_, _, rfl, (OwnS.lit0 w).below hb1, bstep ((Below.refl _ _).alloc (Nat.le_refl _) _) hb1⟩
  · have HG := hid h1
    have HR : Hid (inR hd (-1000) 1000 = false) := hid (by rw [h1] at hv; exact hv)
    clear h1 hv
    go_enter Try.func20, Try.ntmps20
    go_wp2_with fail
    refine (s_l7Good _ _ _ l _ (H.out.below (by go_grown)) (by omega)).mono ?_
    rintro e w1 ⟨rfl, hb1⟩
    rw [HG.out]
    go_wp2_with fail
    refine (s_l1In _ _ _ _).mono ?_
    rintro e _ ⟨rfl, rfl⟩
    rw [HR.out]
    go_wp2
    go_ret2
    first
      | exact ⟨_, _, rfl, OwnS.nil _ _, hb1⟩
      | exact ⟨_, _, rfl, (OwnS.lit0 w).below hb1, bstep ((Below.refl _ _).alloc (Nat.le_refl _) _) hb1⟩

set_option maxHeartbeats 1000000 in
theorem i_RaiseCurve_yes (a : Option Addr) (n c : Nat) (hd : Int) (l : List Pt) (w : World) (h : PAt w a n l) (h1 : goodCurve l = true) (h2 : inR hd (-1000) 1000 = true) :
    Calls Try.prog 21 #[.slice a n c, .int .i64 hd] w fun e w' => ∃ a' c', e = .returned (.tuple #[.slice a' (raiseR l hd).1.length c', .bool (raiseR l hd).2]) ∧ OwnP w' w.heap.size (.slice a' (raiseR l hd).1.length c') (raiseR l hd).1 ∧ Below w.heap.size w w' := by
  obtain ⟨i0, hi, hz0, hz1, hz2⟩ := info_parts Try.infoCurvePoint
  have hnl : l.length = n := h.1
  have hn6 : 2 ≤ n ∧ n ≤ 6 := by have := good_lens h1; omega
  have hr := inR_iff.1 h2
  have H := hid h
  have HG := hid h1
  have HR := hid h2
  have HI := hid hi
  have HZ := hid hz0
  have HZ1 := hid hz1
  have HZ2 := hid hz2
  have HNL := hid hnl
  clear h h1 h2 hi hz0 hz1 hz2 hnl
  go_enter Try.func21, Try.ntmps21
  go_wp2_with fail
  refine (i_IsValidCurve _ _ _ l _ (H.out.below (by go_grown)) (by omega)).mono ?_
  rintro e w1 ⟨rfl, hb1⟩
  rw [HG.out]
  go_wp2_with fail
  refine (i_inside _ _ _ _).mono ?_
  rintro e _ ⟨rfl, rfl⟩
  rw [HR.out]
  have HB1 := hid hb1
  clear hb1
  go_wp2
  go_loopg [6, 20] n (fun g o i wr => ∃ (k : Nat) (a' : Option Addr) (c' : Nat), k ≤ n ∧ g = n - k ∧ i = .int .i64 k ∧ o = .slice a' k c' ∧ Hid (OwnP wr w.heap.size (.slice a' k c') (raised (l.take k) hd) ∧ Below w.heap.size w wr))
  case atStart => exact ⟨0, _, _, Nat.zero_le _, rfl, rfl, rfl, (OwnS.lit0 w1).mono HB1.out.size, bstep HB1.out ((Below.refl _ _).alloc (Nat.le_refl _) _)⟩
  case round =>
    obtain ⟨k, a', c', hk, rfl, rfl, rfl, hh⟩ := hrel
    by_cases hlt : k < n
    · obtain ⟨b0, off0, rfl, hbw, x0, x1⟩ := PAt.get (H.out.below hh.out.2) k hlt
      have hp := good_in HG.out k (by have := HNL.out; omega)
      have hl1 : (raised (l.take k) hd).length = k := by rw [raised_len, List.length_take]; have := HNL.out; omega
      have HL1 := hid hl1
      clear hl1
      have hz1 : b0 < wr.heap.size + 1 := by omega
      go_wp2_with (at_builtin; go_loud (refine wp_append_s _ rfl _ _ 25 rfl 52 i0 (.agg #[.int .i64 0, .int .i64 0]) 16 Try.underlying25 HI.out HZ.out HZ1.out HZ2.out rfl (by decide) pf_len pf_one w.heap.size _ (raised (l.take k) hd) rfl (hh.out.1.below (by go_grown)) _ 1 1 [((pt l k).1, (pt l k).2 + hd)] rfl (SAt.one pf_len rfl (by simp)) (k + 1) (by rw [HL1.out]) (by omega) (by decide) (by have := hh.out.2.size; simp; omega) ?_))
      intro a'' c'' w2 hown hgrow hblk
      have HO := hid (show OwnP w2 w.heap.size (.slice a'' (k + 1) c'') (raised (l.take (k + 1)) hd) by rw [raised_succ _ _ _ (by have := HNL.out; omega)]; exact hown)
      have HB := hid ((bstep hh.out.2 (by go_grown)).grown hgrow (by have := hh.out.2.size; simp; omega) (fun q hq => ((hh.out.1).lt q hq).1))
      clear hown hgrow hblk hh
      go_wp2
      go_roundg (n - (k + 1))
      case rel => exact ⟨k + 1, _, _, by omega, rfl, by go_num, rfl, HO.out, HB.out⟩
      case measure => omega
    · obtain rfl : k = n := by omega
      have hO := hid (show OwnP wr w.heap.size (.slice a' k c') (raised l hd) by have e := hh.out.1; rwa [List.take_of_length_le (by have := HNL.out; omega)] at e)
      have hB := hid hh.out.2
      clear hh
      go_wp2_with fail
      refine (i_IsValidCurve _ _ _ (raised l hd) _ (OwnS.at pf_len hO.out) (by omega)).mono ?_
      rintro e w2 ⟨rfl, hb2⟩
      cases h3 : goodCurve (raised l hd)
      · have E := hid (show raiseR l hd = ([], false) by simp [raiseR, h3])
        clear h3
        go_wp2
        go_ret2
        rw [E.out]
        exact ⟨_, _, rfl, OwnS.nil _ _, bstep hB.out hb2⟩
      · have E := hid (show raiseR l hd = (raised l hd, true) by have := HG.out; have := HR.out; simp [raiseR, *])
        clear h3
        go_wp2
        go_ret2
        rw [E.out]
        have e := (raised_len l hd).trans HNL.out
        simp only [e]
        exact ⟨_, _, rfl, hO.out.below hb2, bstep hB.out hb2⟩

set_option maxRecDepth 100000 in
set_option maxHeartbeats 1000000 in
theorem s_RaiseCurve_yes (a : Option Addr) (n c : Nat) (hd : Int) (l : List Pt) (w : World) (h : PAt w a n l) (h1 : goodCurve l = true) (h2 : inR hd (-1000) 1000 = true) :
    Calls Try.prog 20 #[.slice a n c, .int .i64 hd] w fun e w' => ∃ a' c', e = .returned (.tuple #[.slice a' (raiseR l hd).1.length c', .bool (raiseR l hd).2]) ∧ OwnP w' w.heap.size (.slice a' (raiseR l hd).1.length c') (raiseR l hd).1 ∧ Below w.heap.size w w' := by
  obtain ⟨i0, hi, hz0, hz1, hz2⟩ := info_parts Try.infoCurvePoint
  have hnl : l.length = n := h.1
  have hn6 : 2 ≤ n ∧ n ≤ 6 := by have := good_lens h1; omega
  have hr := inR_iff.1 h2
  have H := hid h
  have HG := hid h1
  have HR := hid h2
  have HI := hid hi
  have HZ := hid hz0
  have HZ1 := hid hz1
  have HZ2 := hid hz2
  have HNL := hid hnl
  clear h h1 h2 hi hz0 hz1 hz2 hnl
  go_enter Try.func20, Try.ntmps20
  go_wp2_with fail
  refine (s_l7Good _ _ _ l _ (H.out.below (by go_grown)) (by omega)).mono ?_
  rintro e w1 ⟨rfl, hb1⟩
  rw [HG.out]
  go_wp2_with fail
  refine (s_l1In _ _ _ _).mono ?_
  rintro e _ ⟨rfl, rfl⟩
  rw [HR.out]
  have HB1 := hid (bstep ((Below.refl _ _).alloc (Nat.le_refl _) _) hb1 : Below w.heap.size w w1)
  have HO1 := hid (show OwnP w1 w.heap.size _ [] from (OwnS.lit0 w).below hb1)
  clear hb1
  go_wp2
  go_loopg [6, 7] n (fun g o i wr => ∃ (k : Nat) (a' : Option Addr) (c' : Nat), k ≤ n ∧ g = n - k ∧ i = .int .i64 k ∧ o = .slice a' k c' ∧ Hid (OwnP wr w.heap.size (.slice a' k c') (raised (l.take k) hd) ∧ Below w.heap.size w wr))
  case atStart => exact ⟨0, _, _, Nat.zero_le _, rfl, rfl, rfl, HO1.out, HB1.out⟩
  case round =>
    obtain ⟨k, a', c', hk, rfl, rfl, rfl, hh⟩ := hrel
    by_cases hlt : k < n
    · obtain ⟨b0, off0, rfl, hbw0, -, -⟩ := PAt.get H.out k hlt
      obtain ⟨_, _, e1, hbw, x0, x1⟩ := PAt.get (H.out.below hh.out.2) k hlt
      cases e1
      have hp := good_in HG.out k (by have := HNL.out; omega)
      have hw : IntKind.i64.wrap ((pt l k).2 + hd) = (pt l k).2 + hd := IntWalk.i64_in _ (by omega)
      have AG := hid (show Value.ownBlock (.slice a' k c') ≠ some b0 from fun e => by have := (hh.out.1.lt _ e).1; omega)
      go_upto_region 7 with fail
      go_region_held3 (fun w' => w'.cell? ⟨b0, off0 + k * 2, none⟩ = some (.int .i64 (pt l k).1) ∧ w'.cell? ⟨b0, off0 + k * 2 + 1, none⟩ = some (.int .i64 (pt l k).2))
        (first | go_keep | (go_split_ands; refine ⟨?_, ?_⟩ <;> (rw [hgrow.cell_far _ (by simp; omega) (Ne.symm AG.out)]; assumption)))
        ((refine step_append_lies _ (by rfl) _ _ _ (by rfl) w.heap.size 52 i0 _ 2 16 Try.underlying25 HI.out HZ.out HZ1.out HZ2.out rfl (by omega) _ k _ (by rfl) (((OwnS.row hh.out.1).alloc _).drew) ⟨wr.heap.size, 0, none⟩ 1 1 [.int .i64 (pt l k).1, .int .i64 ((pt l k).2 + hd)] (by rfl) (by rfl) (World.news_of_block (cs := #[.int .i64 (pt l k).1, .int .i64 ((pt l k).2 + hd)]) (t := 52) (fr := (0, 0)) (heap_alloc_new wr _)) (by simp [Value.oneCell']) (by omega) (by unfold maxLen; omega) (by omega) (by have := hh.out.2.size; simp; omega) (wr.heap.size + 1) (by simp) ?_; intro gg cap w2 hown hgrow hblk hlt2))
      have HO := hid (show OwnP w2 w.heap.size (.slice (some ⟨gg, 0, none⟩) (k + 1) cap) (raised (l.take (k + 1)) hd) from OwnS.of_row pf_len (by decide) (n := k + 1) (by rw [raised_succ _ _ _ (by have := HNL.out; omega), List.flatMap_append]; exact hown))
      have HB := hid ((bstep hh.out.2 (by go_grown)).grown hgrow (by have := hh.out.2.size; simp; omega) (fun q hq => ((hh.out.1).lt q hq).1))
      clear hown hgrow hblk hh
      go_wp2
      go_roundg (n - (k + 1))
      case rel => exact ⟨k + 1, _, _, by omega, rfl, by go_num, rfl, HO.out, HB.out⟩
      case measure => omega
    · obtain rfl : k = n := by omega
      have hO := hid (show OwnP wr w.heap.size (.slice a' k c') (raised l hd) by have e := hh.out.1; rwa [List.take_of_length_le (by have := HNL.out; omega)] at e)
      have hB := hid hh.out.2
      clear hh
      go_wp2_with fail
      refine (s_l7Good _ _ _ (raised l hd) _ (OwnS.at pf_len hO.out) (by omega)).mono ?_
      rintro e w2 ⟨rfl, hb2⟩
      cases h3 : goodCurve (raised l hd)
      · have E := hid (show raiseR l hd = ([], false) by simp [raiseR, h3])
        clear h3
        go_wp2
        go_ret2
        rw [E.out]
        exact ⟨_, _, rfl, (OwnS.lit0 w2).mono (bstep hB.out hb2).size, bstep (bstep hB.out hb2) ((Below.refl _ _).alloc (Nat.le_refl _) _)⟩
      · have E := hid (show raiseR l hd = (raised l hd, true) by have := HG.out; have := HR.out; simp [raiseR, *])
        clear h3
        go_wp2
        go_ret2
        rw [E.out]
        have e := (raised_len l hd).trans HNL.out
        simp only [e]
        exact ⟨_, _, rfl, hO.out.below hb2, bstep hB.out hb2⟩

theorem i_RaiseCurve (a : Option Addr) (n c : Nat) (hd : Int) (l : List Pt) (w : World) (h : PAt w a n l) (hn : n ≤ 1048576) (R : List Pt) (b : Bool) (hR : raiseR l hd = (R, b)) :
    Calls Try.prog 21 #[.slice a n c, .int .i64 hd] w fun e w' => ∃ a' c', e = .returned (.tuple #[.slice a' R.length c', .bool b]) ∧ OwnP w' w.heap.size (.slice a' R.length c') R ∧ Below w.heap.size w w' := by
  by_cases hv : (goodCurve l && inR hd (-1000) 1000) = true
  · obtain ⟨h1, h2⟩ := (Bool.and_eq_true _ _).mp hv
    have := i_RaiseCurve_yes a n c hd l w h h1 h2
    rw [hR] at this
    exact this
  · have hv' : (goodCurve l && inR hd (-1000) 1000) = false := by simpa using hv
    have e : raiseR l hd = ([], false) := by
      unfold raiseR
      rw [if_neg]
      rintro ⟨x, y, -⟩
      rw [x, y] at hv'
      cases hv'
    rw [e] at hR
    cases hR
    exact i_RaiseCurve_no a n c hd l w h hn hv'
theorem s_RaiseCurve (a : Option Addr) (n c : Nat) (hd : Int) (l : List Pt) (w : World) (h : PAt w a n l) (hn : n ≤ 1048576) (R : List Pt) (b : Bool) (hR : raiseR l hd = (R, b)) :
    Calls Try.prog 20 #[.slice a n c, .int .i64 hd] w fun e w' => ∃ a' c', e = .returned (.tuple #[.slice a' R.length c', .bool b]) ∧ OwnP w' w.heap.size (.slice a' R.length c') R ∧ Below w.heap.size w w' := by
  by_cases hv : (goodCurve l && inR hd (-1000) 1000) = true
  · obtain ⟨h1, h2⟩ := (Bool.and_eq_true _ _).mp hv
    have := s_RaiseCurve_yes a n c hd l w h h1 h2
    rw [hR] at this
    exact this
  · have hv' : (goodCurve l && inR hd (-1000) 1000) = false := by simpa using hv
    have e : raiseR l hd = ([], false) := by
      unfold raiseR
      rw [if_neg]
      rintro ⟨x, y, -⟩
      rw [x, y] at hv'
      cases hv'
    rw [e] at hR
    cases hR
    exact s_RaiseCurve_no a n c hd l w h hn hv'

end Go.Proofs.Ytpcbeapajlchgaa
