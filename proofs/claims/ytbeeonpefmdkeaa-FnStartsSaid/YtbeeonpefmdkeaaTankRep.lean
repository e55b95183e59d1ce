/-
  The level behind a day, RepeatDay.
-/
import Derived.Test.YtbeeonpefmdkeaaTankApi2
set_option linter.unusedVariables false
set_option linter.unusedSimpArgs false
namespace Go.Proofs.Ytbeeonpefmdkeaa
open Go.RowKit

theorem levels_last (a b lv : Int) (ins outs : List Int) (m : Nat) : (levelsOf a b lv ins outs (m + 1))[m]?.getD 0 = lvAt a b lv ins outs (m + 1) := by simp [levelsOf]

theorem m_end (a1 a2 a3 : Option Addr) (n c1 n2 c2 n3 c3 : Nat) (l : List Int) (w : World) (h : IntsAt w a1 n l) (hn : 1 ≤ n ∧ n ≤ 1048576) :
    Calls Try.prog 66 #[.agg #[.slice a1 n c1, .slice a2 n2 c2, .slice a3 n3 c3]] w fun e w' => e = .returned (.int .i64 (l[n - 1]?.getD 0)) ∧ Below w.heap.size w w' := by
  obtain ⟨m, rfl⟩ : ∃ m, n = m + 1 := ⟨n - 1, by omega⟩
  obtain ⟨b, off, rfl, hb, hc⟩ := h.2 m (by omega)
  have F := hid (rfl : l[m + 1 - 1]?.getD 0 = l[m]?.getD 0)
  clear h
  go_enter Try.func66, Try.ntmps66
  go_wp2
  go_ret
  exact ⟨rfl, by go_grown⟩

theorem s_l11After (l0 lv a b : Int) (p q : Option Addr) (n c d : Nat) (ins outs : List Int) (w : World) (h : IntsAt w p n ins) (h' : IntsAt w q n outs) (hd : goodDay lv a b ins outs = true) :
    Calls Try.prog 63 #[.agg #[.int .i64 l0, .int .i64 a, .int .i64 b], .int .i64 lv, .slice p n c, .slice q n d] w fun e w' => e = .returned (.int .i64 (lvAt a b lv ins outs n)) ∧ Below w.heap.size w w' := by
  have hn : 1 ≤ n ∧ n ≤ 12 := by have := h.1; have := goodDay_iff.1 hd; omega
  have H := hid h
  have H' := hid h'
  have HD := hid hd
  clear h h' hd
  obtain ⟨m, rfl⟩ : ∃ m, n = m + 1 := ⟨n - 1, by omega⟩
  go_enter Try.func63, Try.ntmps63
  go_wp2_with fail
  refine (s_runDay _ _ _ _ _ _ _ _ _ ins outs _ (H.out.below (by go_grown)) (H'.out.below (by go_grown)) HD.out).mono ?_
  rintro e w2 ⟨a1, c1, a2, c2, a3, c3, rfl, hb2, o1, o2, o3⟩
  obtain ⟨b1, off, rfl, hbw, hcell⟩ := o1.at.2 m (by omega)
  rw [levels_last] at hcell
  clear o1 o2 o3
  go_wp2
  go_ret
  refine ⟨rfl, ?_⟩
  repeat' (first | (with_reducible exact Below.refl _ _) | (with_reducible assumption) | (with_reducible refine bstep ?_ (by with_reducible assumption)) | (with_reducible refine Below.alloc ?_ ?_ _) | (with_reducible refine Below.setCell ?_ ?_ _) | (with_reducible refine Below.drew ?_) | (with_reducible refine below_drewN ?_ _) | omega | (simp only [World.size_alloc, World.size_setCell, World.size_drew]; omega) | (simp; omega))

/-- The level behind so many days. -/
def repLv (a b lv : Int) (ins outs : List Int) : Nat → Int
  | 0 => lv
  | k + 1 => lvAt a b (repLv a b lv ins outs k) ins outs ins.length

theorem repLv_good {lv a b : Int} {ins outs : List Int} (hd : goodDay lv a b ins outs = true) : ∀ k, goodDay (repLv a b lv ins outs k) a b ins outs = true
  | 0 => hd
  | k + 1 => by
    obtain ⟨h1, h2, h3, h4, h5⟩ := goodDay_iff.1 (repLv_good hd k)
    exact goodDay_iff.2 ⟨lvAt_good h1 h4 h5 h3 _ (Nat.le_refl _), h2, h3, h4, h5⟩

set_option maxHeartbeats 1000000 in
theorem i_RepeatDay_yes (days : Nat) (hdays : days ≤ 20) (lv a b : Int) (p q : Option Addr) (n c d : Nat) (ins outs : List Int) (w : World) (h : IntsAt w p n ins) (h' : IntsAt w q n outs) (hd : goodDay lv a b ins outs = true) :
    Calls Try.prog 32 #[.agg #[.int .i64 lv, .int .i64 a, .int .i64 b], .slice p n c, .slice q n d, .int .i64 days] w fun e w' => e = .returned (.tuple #[.agg #[.int .i64 (repLv a b lv ins outs days), .int .i64 a, .int .i64 b], .bool true]) ∧ Below w.heap.size w w' := by
  have hn : n = ins.length ∧ 1 ≤ n ∧ n ≤ 12 := by have := h.1; have := goodDay_iff.1 hd; omega
  have HN := hid hn
  have H := hid h
  have H' := hid h'
  have HD := hid hd
  have hin : inR (days : Int) 0 20 = true := inR_iff.2 (by omega)
  clear h h' hn
  go_enter Try.func32, Try.ntmps32
  go_wp2_with fail
  refine (i_isTankDay _ _ _ _ _ _ _ _ _ _ _ _ (H.out.below (by go_grown)) (H'.out.below (by go_grown)) (by have := HN.out; omega) (by have := HN.out; omega)).mono ?_
  rintro e w1 ⟨rfl, hb1⟩
  obtain ⟨hc_w1, hf_w1⟩ := bcell hb1
  go_wp2_with fail
  refine (i_inside _ _ _ _).mono ?_
  rintro e _ ⟨rfl, rfl⟩
  have e4 : w1.heap[w.heap.size]? = some (.cells #[.int .i64 lv, .int .i64 a, .int .i64 b] 25 (0, 0)) := by
    rw [hb1.block _ (by simp <;> omega), Below.heap_alloc _ _ _ (by simp)]; exact heap_alloc_new w _
  have e8 : w1.heap[w.heap.size + 1]? = some (.cells #[.int .i64 0, .int .i64 0, .int .i64 0] 25 (0, 0)) := by
    rw [hb1.block _ (by simp)]
    have := heap_alloc_new (w.alloc (.cells #[.int .i64 lv, .int .i64 a, .int .i64 b] 25)) (.cells #[.int .i64 0, .int .i64 0, .int .i64 0] 25)
    simpa using this
  have B1 := hid (bstep ((((Below.refl _ _).alloc (Nat.le_refl _) _).alloc (by simp) _ : Below w.heap.size w _)) hb1)
  have E := hid (And.intro e4 e8)
  clear e4 e8 hc_w1 hf_w1 hb1 hd
  go_wp2
  go_loopg [22] days (fun g i wr => ∃ k : Nat, k ≤ days ∧ g = days - k ∧ i = .int .i64 k ∧ Hid (Below w.heap.size w wr ∧ wr.heap[w.heap.size]? = some (.cells #[.int .i64 (repLv a b lv ins outs k), .int .i64 a, .int .i64 b] 25 (0, 0)) ∧ wr.heap[w.heap.size + 1]? = some (.cells #[.int .i64 0, .int .i64 0, .int .i64 0] 25 (0, 0))))
  case atStart => exact ⟨0, Nat.zero_le _, by omega, rfl, B1.out, E.out.1, E.out.2⟩
  case round =>
    obtain ⟨k, hk, rfl, rfl, hh⟩ := hrel
    have m0 : wr.cell? ⟨w.heap.size, 0, none⟩ = some (.int .i64 (repLv a b lv ins outs k)) := by rw [cell_of_row wr _ _ _ _ (0, 0) hh.out.2.1]; rfl
    have m1 : wr.cell? ⟨w.heap.size, 1, none⟩ = some (.int .i64 a) := by rw [cell_of_row wr _ _ _ _ (0, 0) hh.out.2.1]; rfl
    have m2 : wr.cell? ⟨w.heap.size, 2, none⟩ = some (.int .i64 b) := by rw [cell_of_row wr _ _ _ _ (0, 0) hh.out.2.1]; rfl
    have hz1 : w.heap.size + 1 < wr.heap.size := (Array.getElem?_eq_some_iff.1 hh.out.2.2).1
    by_cases hlt : k < days
    · go_wp2_with fail
      refine (i_runDay _ _ _ _ _ _ _ _ ins outs _ (H.out.below hh.out.1) (H'.out.below hh.out.1) (repLv_good HD.out k)).mono ?_
      rintro e w2 ⟨a1, c1, a2, c2, a3, c3, rfl, hb2, o1, o2, o3⟩
      have O1 := hid o1
      clear o1 o2 o3
      go_wp2_with fail
      refine (m_end _ _ _ _ _ _ _ _ _ _ _ O1.out.at (by have := HN.out; omega)).mono ?_
      rintro e w3 ⟨rfl, hb3⟩
      have g4 := (hb3.block w.heap.size (by have := hb2.size; omega)).trans ((hb2.block w.heap.size (by omega)).trans hh.out.2.1)
      have g8 := (hb3.block (w.heap.size + 1) (by have := hb2.size; omega)).trans ((hb2.block (w.heap.size + 1) (by omega)).trans hh.out.2.2)
      have B3 := hid (bstep (bstep hh.out.1 hb2) hb3)
      have G := hid (And.intro g4 g8)
      have y0 : w3.cell? ⟨w.heap.size, 0, none⟩ = some (.int .i64 (repLv a b lv ins outs k)) := by rw [cell_of_row w3 _ _ _ _ (0, 0) g4]; rfl
      have y1 : w3.frozen? ⟨w.heap.size, 0, none⟩ = false := frozen_of_row w3 _ 0 _ _ g4
      clear g4 g8 hb2 hb3 m0 m1 m2 hz1
      go_wp2
      go_roundg (days - (k + 1))
      case measure => omega
      case rel =>
        have hs := heap_setCell_same w3 _ 0 _ _ (.int .i64 ((levelsOf a b (repLv a b lv ins outs k) ins outs n)[n - 1]?.getD 0)) G.out.1
        have hv : (levelsOf a b (repLv a b lv ins outs k) ins outs n)[n - 1]?.getD 0 = repLv a b lv ins outs (k + 1) := by
          obtain ⟨h1, h2, h3⟩ := HN.out
          obtain ⟨m, rfl⟩ : ∃ m, n = m + 1 := ⟨n - 1, by omega⟩
          show _ = lvAt a b (repLv a b lv ins outs k) ins outs ins.length
          rw [← h1]; exact levels_last _ _ _ _ _ _
        refine ⟨k + 1, by omega, rfl, by go_num, B3.out.setCell (Nat.le_refl _) _, ?_, ?_⟩
        · rw [hv] at hs ⊢; simpa using hs
        · rw [Below.heap_setCell _ _ _ _ (by simp)]; exact G.out.2
    · have hkd : k = days := by omega
      subst hkd
      have x0 : wr.cell? ⟨w.heap.size + 1, 0, none⟩ = some (.int .i64 0) := by rw [cell_of_row wr _ _ _ _ (0, 0) hh.out.2.2]; rfl
      have x1 : wr.cell? ⟨w.heap.size + 1, 1, none⟩ = some (.int .i64 0) := by rw [cell_of_row wr _ _ _ _ (0, 0) hh.out.2.2]; rfl
      have x2 : wr.cell? ⟨w.heap.size + 1, 2, none⟩ = some (.int .i64 0) := by rw [cell_of_row wr _ _ _ _ (0, 0) hh.out.2.2]; rfl
      have f0 : wr.frozen? ⟨w.heap.size + 1, 0, none⟩ = false := frozen_of_row wr _ 0 _ _ hh.out.2.2
      have f1 : wr.frozen? ⟨w.heap.size + 1, 1, none⟩ = false := frozen_of_row wr _ 1 _ _ hh.out.2.2
      have f2 : wr.frozen? ⟨w.heap.size + 1, 2, none⟩ = false := frozen_of_row wr _ 2 _ _ hh.out.2.2
      go_wp2
      refine bodyPost_ret (v := .tuple #[.agg #[.int .i64 (repLv a b lv ins outs k), .int .i64 a, .int .i64 b], .bool true]) (by simp [results, Try.results32, go_sem, *]) rfl ⟨rfl, ?_⟩
      exact ((hh.out.1.setCell (by simp) _).setCell (by simp) _).setCell (by simp) _

end Go.Proofs.Ytbeeonpefmdkeaa
