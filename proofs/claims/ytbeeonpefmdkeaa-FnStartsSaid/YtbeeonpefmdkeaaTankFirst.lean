/-
  The smallest level that a test chooses: LeastStart and SteadyLevel; the reference's RepeatDay.
-/
import Derived.Test.YtbeeonpefmdkeaaTankRep
set_option linter.unusedVariables false
set_option linter.unusedSimpArgs false
namespace Go.Proofs.Ytbeeonpefmdkeaa
open Go.RowKit

theorem i_RepeatDay_no (days : Int) (lv a b : Int) (p q : Option Addr) (n m c d : Nat) (ins outs : List Int) (w : World) (h : IntsAt w p n ins) (h' : IntsAt w q m outs) (hn : n ≤ 1048576) (hm : m ≤ 1048576) (hd : (goodDay lv a b ins outs && inR days 0 20) = false) :
    Calls Try.prog 32 #[.agg #[.int .i64 lv, .int .i64 a, .int .i64 b], .slice p n c, .slice q m d, .int .i64 days] w fun e w' => e = .returned (.tuple #[.agg #[.int .i64 0, .int .i64 0, .int .i64 0], .bool false]) ∧ Below w.heap.size w w' := by
  have H := hid h
  have H' := hid h'
  clear h h'
  cases h1 : goodDay lv a b ins outs
  · clear hd
    go_enter Try.func32, Try.ntmps32
    go_wp2_with fail
    refine (i_isTankDay _ _ _ _ _ _ _ _ _ _ _ _ (H.out.below (by go_grown)) (H'.out.below (by go_grown)) hn hm).mono ?_
    rintro e w1 ⟨rfl, hb1⟩
    obtain ⟨hc_w1, hf_w1⟩ := bcell hb1
    have hz_w1_0 : w.heap.size < w1.heap.size := by have := hb1.size; (try simp only [World.size_alloc, World.size_setCell, World.size_drew] at this); omega
    have hz_w1_1 : w.heap.size + 1 < w1.heap.size := by have := hb1.size; (try simp only [World.size_alloc, World.size_setCell, World.size_drew] at this); omega
    go_wp2
    refine bodyPost_ret (v := .tuple #[.agg #[.int .i64 0, .int .i64 0, .int .i64 0], .bool false]) (by simp [results, Try.results32, go_sem, *]) rfl ⟨rfl, ?_⟩
    repeat' (first | (with_reducible exact Below.refl _ _) | (with_reducible assumption) | (with_reducible refine bstep ?_ (by with_reducible assumption)) | (with_reducible refine Below.alloc ?_ ?_ _) | (with_reducible refine Below.setCell ?_ ?_ _) | (with_reducible refine Below.drew ?_) | (with_reducible refine below_drewN ?_ _) | omega | (simp only [World.size_alloc, World.size_setCell, World.size_drew]; omega) | (simp; omega))
  · have h2 : inR days 0 20 = false := by rw [h1] at hd; simpa using hd
    clear hd
    go_enter Try.func32, Try.ntmps32
    go_wp2_with fail
    refine (i_isTankDay _ _ _ _ _ _ _ _ _ _ _ _ (H.out.below (by go_grown)) (H'.out.below (by go_grown)) hn hm).mono ?_
    rintro e w1 ⟨rfl, hb1⟩
    obtain ⟨hc_w1, hf_w1⟩ := bcell hb1
    have hz_w1_0 : w.heap.size < w1.heap.size := by have := hb1.size; (try simp only [World.size_alloc, World.size_setCell, World.size_drew] at this); omega
    have hz_w1_1 : w.heap.size + 1 < w1.heap.size := by have := hb1.size; (try simp only [World.size_alloc, World.size_setCell, World.size_drew] at this); omega
    go_wp2_with fail
    refine (i_inside _ _ _ _).mono ?_
    rintro e _ ⟨rfl, rfl⟩
    go_wp2
    refine bodyPost_ret (v := .tuple #[.agg #[.int .i64 0, .int .i64 0, .int .i64 0], .bool false]) (by simp [results, Try.results32, go_sem, *]) rfl ⟨rfl, ?_⟩
    repeat' (first | (with_reducible exact Below.refl _ _) | (with_reducible assumption) | (with_reducible refine bstep ?_ (by with_reducible assumption)) | (with_reducible refine Below.alloc ?_ ?_ _) | (with_reducible refine Below.setCell ?_ ?_ _) | (with_reducible refine Below.drew ?_) | (with_reducible refine below_drewN ?_ _) | omega | (simp only [World.size_alloc, World.size_setCell, World.size_drew]; omega) | (simp; omega))
theorem s_RepeatDay_no (days : Int) (lv a b : Int) (p q : Option Addr) (n m c d : Nat) (ins outs : List Int) (w : World) (h : IntsAt w p n ins) (h' : IntsAt w q m outs) (hn : n ≤ 1048576) (hm : m ≤ 1048576) (hd : (goodDay lv a b ins outs && inR days 0 20) = false) :
    Calls Try.prog 31 #[.agg #[.int .i64 lv, .int .i64 a, .int .i64 b], .slice p n c, .slice q m d, .int .i64 days] w fun e w' => e = .returned (.tuple #[.agg #[.int .i64 0, .int .i64 0, .int .i64 0], .bool false]) ∧ Below w.heap.size w w' := by
  have H := hid h
  have H' := hid h'
  clear h h'
  cases h1 : goodDay lv a b ins outs
  · clear hd
    go_enter Try.func31, Try.ntmps31
    go_wp2_with fail
    refine (s_l11Day _ _ _ _ _ _ _ _ _ _ _ _ (H.out.below (by go_grown)) (H'.out.below (by go_grown)) hn hm).mono ?_
    rintro e w1 ⟨rfl, hb1⟩
    obtain ⟨hc_w1, hf_w1⟩ := bcell hb1
    have hz_w1_0 : w.heap.size < w1.heap.size := by have := hb1.size; (try simp only [World.size_alloc, World.size_setCell, World.size_drew] at this); omega
    have hz_w1_1 : w.heap.size + 1 < w1.heap.size := by have := hb1.size; (try simp only [World.size_alloc, World.size_setCell, World.size_drew] at this); omega
    go_wp2
    refine bodyPost_ret (v := .tuple #[.agg #[.int .i64 0, .int .i64 0, .int .i64 0], .bool false]) (by simp [results, Try.results31, go_sem, *]) rfl ⟨rfl, ?_⟩
    repeat' (first | (with_reducible exact Below.refl _ _) | (with_reducible assumption) | (with_reducible refine bstep ?_ (by with_reducible assumption)) | (with_reducible refine Below.alloc ?_ ?_ _) | (with_reducible refine Below.setCell ?_ ?_ _) | (with_reducible refine Below.drew ?_) | (with_reducible refine below_drewN ?_ _) | omega | (simp only [World.size_alloc, World.size_setCell, World.size_drew]; omega) | (simp; omega))
  · have h2 : inR days 0 20 = false := by rw [h1] at hd; simpa using hd
    clear hd
    go_enter Try.func31, Try.ntmps31
    go_wp2_with fail
    refine (s_l11Day _ _ _ _ _ _ _ _ _ _ _ _ (H.out.below (by go_grown)) (H'.out.below (by go_grown)) hn hm).mono ?_
    rintro e w1 ⟨rfl, hb1⟩
    obtain ⟨hc_w1, hf_w1⟩ := bcell hb1
    have hz_w1_0 : w.heap.size < w1.heap.size := by have := hb1.size; (try simp only [World.size_alloc, World.size_setCell, World.size_drew] at this); omega
    have hz_w1_1 : w.heap.size + 1 < w1.heap.size := by have := hb1.size; (try simp only [World.size_alloc, World.size_setCell, World.size_drew] at this); omega
    go_wp2_with fail
    refine (s_l1In _ _ _ _).mono ?_
    rintro e _ ⟨rfl, rfl⟩
    go_wp2
    refine bodyPost_ret (v := .tuple #[.agg #[.int .i64 0, .int .i64 0, .int .i64 0], .bool false]) (by simp [results, Try.results31, go_sem, *]) rfl ⟨rfl, ?_⟩
    repeat' (first | (with_reducible exact Below.refl _ _) | (with_reducible assumption) | (with_reducible refine bstep ?_ (by with_reducible assumption)) | (with_reducible refine Below.alloc ?_ ?_ _) | (with_reducible refine Below.setCell ?_ ?_ _) | (with_reducible refine Below.drew ?_) | (with_reducible refine below_drewN ?_ _) | omega | (simp only [World.size_alloc, World.size_setCell, World.size_drew]; omega) | (simp; omega))

set_option maxHeartbeats 1000000 in
theorem s_RepeatDay_yes (days : Nat) (hdays : days ≤ 20) (lv a b : Int) (p q : Option Addr) (n c d : Nat) (ins outs : List Int) (w : World) (h : IntsAt w p n ins) (h' : IntsAt w q n outs) (hd : goodDay lv a b ins outs = true) :
    Calls Try.prog 31 #[.agg #[.int .i64 lv, .int .i64 a, .int .i64 b], .slice p n c, .slice q n d, .int .i64 days] w fun e w' => e = .returned (.tuple #[.agg #[.int .i64 (repLv a b lv ins outs days), .int .i64 a, .int .i64 b], .bool true]) ∧ Below w.heap.size w w' := by
  have hn : n = ins.length ∧ 1 ≤ n ∧ n ≤ 12 := by have := h.1; have := goodDay_iff.1 hd; omega
  have HN := hid hn
  have H := hid h
  have H' := hid h'
  have HD := hid hd
  have hin : inR (days : Int) 0 20 = true := inR_iff.2 (by omega)
  clear h h' hn
  go_enter Try.func31, Try.ntmps31
  go_wp2_with fail
  refine (s_l11Day _ _ _ _ _ _ _ _ _ _ _ _ (H.out.below (by go_grown)) (H'.out.below (by go_grown)) (by have := HN.out; omega) (by have := HN.out; omega)).mono ?_
  rintro e w1 ⟨rfl, hb1⟩
  obtain ⟨hc_w1, hf_w1⟩ := bcell hb1
  go_wp2_with fail
  refine (s_l1In _ _ _ _).mono ?_
  rintro e _ ⟨rfl, rfl⟩
  have e4 : w1.heap[w.heap.size]? = some (.cells #[.int .i64 lv, .int .i64 a, .int .i64 b] 25 (0, 0)) := by
    rw [hb1.block _ (by simp <;> omega), Below.heap_alloc _ _ _ (by simp)]; exact heap_alloc_new w _
  have e8 : w1.heap[w.heap.size + 1]? = some (.cells #[.int .i64 0, .int .i64 0, .int .i64 0] 25 (0, 0)) := by
    rw [hb1.block _ (by simp)]
    have := heap_alloc_new (w.alloc (.cells #[.int .i64 lv, .int .i64 a, .int .i64 b] 25)) (.cells #[.int .i64 0, .int .i64 0, .int .i64 0] 25)
    simpa using this
  have B1 := hid (bstep ((((Below.refl _ _).alloc (Nat.le_refl _) _).alloc (by simp) _ : Below w.heap.size w _)) hb1)
  have E := hid (And.intro e4 e8)
  have m0 : w1.cell? ⟨w.heap.size, 0, none⟩ = some (.int .i64 lv) := by rw [cell_of_row w1 _ _ _ _ (0, 0) e4]; rfl
  clear e4 e8 hc_w1 hf_w1 hb1 hd
  go_wp2
  clear m0
  go_loopg [10, 11] days (fun g s i wr => ∃ k : Nat, k ≤ days ∧ g = days - k ∧ i = .int .i64 k ∧ s = .int .i64 (repLv a b lv ins outs k) ∧ Hid (Below w.heap.size w wr ∧ wr.heap[w.heap.size]? = some (.cells #[.int .i64 lv, .int .i64 a, .int .i64 b] 25 (0, 0)) ∧ wr.heap[w.heap.size + 1]? = some (.cells #[.int .i64 0, .int .i64 0, .int .i64 0] 25 (0, 0))))
  case atStart => exact ⟨0, Nat.zero_le _, by omega, rfl, rfl, B1.out, E.out.1, E.out.2⟩
  case round =>
    obtain ⟨k, hk, rfl, rfl, rfl, hh⟩ := hrel
    have m0 : wr.cell? ⟨w.heap.size, 0, none⟩ = some (.int .i64 lv) := by rw [cell_of_row wr _ _ _ _ (0, 0) hh.out.2.1]; rfl
    have m1 : wr.cell? ⟨w.heap.size, 1, none⟩ = some (.int .i64 a) := by rw [cell_of_row wr _ _ _ _ (0, 0) hh.out.2.1]; rfl
    have m2 : wr.cell? ⟨w.heap.size, 2, none⟩ = some (.int .i64 b) := by rw [cell_of_row wr _ _ _ _ (0, 0) hh.out.2.1]; rfl
    have hz1 : w.heap.size + 1 < wr.heap.size := (Array.getElem?_eq_some_iff.1 hh.out.2.2).1
    by_cases hlt : k < days
    · go_wp2_with fail
      refine (s_l11After _ _ _ _ _ _ _ _ _ ins outs _ (H.out.below hh.out.1) (H'.out.below hh.out.1) (repLv_good HD.out k)).mono ?_
      rintro e w2 ⟨rfl, hb2⟩
      have B2 := hid (And.intro (bstep hh.out.1 hb2) (And.intro ((hb2.block w.heap.size (by omega)).trans hh.out.2.1) ((hb2.block (w.heap.size + 1) (by omega)).trans hh.out.2.2)))
      clear hb2 m0 m1 m2 hz1
      go_wp2
      go_roundg (days - (k + 1))
      case measure => omega
      case rel =>
        refine ⟨k + 1, by omega, rfl, by go_num, ?_, B2.out⟩
        show _ = Value.int .i64 (lvAt a b (repLv a b lv ins outs k) ins outs ins.length)
        rw [← HN.out.1]
    · have hkd : k = days := by omega
      subst hkd
      have x0 : wr.cell? ⟨w.heap.size + 1, 0, none⟩ = some (.int .i64 0) := by rw [cell_of_row wr _ _ _ _ (0, 0) hh.out.2.2]; rfl
      have x1 : wr.cell? ⟨w.heap.size + 1, 1, none⟩ = some (.int .i64 0) := by rw [cell_of_row wr _ _ _ _ (0, 0) hh.out.2.2]; rfl
      have x2 : wr.cell? ⟨w.heap.size + 1, 2, none⟩ = some (.int .i64 0) := by rw [cell_of_row wr _ _ _ _ (0, 0) hh.out.2.2]; rfl
      have f0 : wr.frozen? ⟨w.heap.size + 1, 0, none⟩ = false := frozen_of_row wr _ 0 _ _ hh.out.2.2
      have f1 : wr.frozen? ⟨w.heap.size + 1, 1, none⟩ = false := frozen_of_row wr _ 1 _ _ hh.out.2.2
      have f2 : wr.frozen? ⟨w.heap.size + 1, 2, none⟩ = false := frozen_of_row wr _ 2 _ _ hh.out.2.2
      go_wp2
      refine bodyPost_ret (v := .tuple #[.agg #[.int .i64 (repLv a b lv ins outs k), .int .i64 a, .int .i64 b], .bool true]) (by simp [results, Try.results31, go_sem, *]) rfl ⟨rfl, ?_⟩
      exact ((hh.out.1.setCell (by simp) _).setCell (by simp) _).setCell (by simp) _

/-- The smallest number in a range that a test takes. -/
def FirstAt (pred : Int → Bool) (a b : Int) : Option Int → Prop
  | some x => a ≤ x ∧ x ≤ b ∧ pred x = true ∧ ∀ y, a ≤ y → y < x → pred y = false
  | none => ∀ y, a ≤ y → y ≤ b → pred y = false

theorem firstAt (pred : Int → Bool) (a b : Int) : ∃ r, FirstAt pred a b r := by
  have key : ∀ n : Nat, (∃ x, a ≤ x ∧ x < a + n ∧ pred x = true ∧ ∀ y, a ≤ y → y < x → pred y = false) ∨ (∀ y, a ≤ y → y < a + n → pred y = false) := by
    intro n
    induction n with
    | zero => exact Or.inr (fun y h1 h2 => by omega)
    | succ n ih =>
      rcases ih with ⟨x, h1, h2, h3, h4⟩ | ih
      · exact Or.inl ⟨x, h1, by omega, h3, h4⟩
      · cases hp : pred (a + n) with
        | true => exact Or.inl ⟨a + n, by omega, by omega, hp, fun y h1 h2 => ih y h1 h2⟩
        | false =>
          refine Or.inr (fun y h1 h2 => ?_)
          by_cases e : y = a + n
          · subst e; exact hp
          · exact ih y h1 (by omega)
  rcases key (b - a + 1).toNat with ⟨x, h1, h2, h3, h4⟩ | h
  · exact ⟨some x, h1, by omega, h3, h4⟩
  · exact ⟨none, fun y h1 h2 => h y h1 (by omega)⟩

def optVal (r : Option Int) : Int := r.getD 0

theorem firstAt_step {pred : Int → Bool} {a b x : Int} {r : Option Int} (h : FirstAt pred a b r) (h1 : a ≤ x) (h2 : x ≤ b) (h3 : pred x = true) (h4 : ∀ y, a ≤ y → y < x → pred y = false) : r = some x := by
  cases r with
  | none => have := h x h1 h2; rw [h3] at this; cases this
  | some z =>
    obtain ⟨k1, k2, k3, k4⟩ := h
    by_cases e1 : z < x
    · have := h4 z k1 e1; rw [k3] at this; cases this
    · by_cases e2 : x < z
      · have := k4 x h1 e2; rw [h3] at this; cases this
      · congr 1; omega

theorem firstAt_end {pred : Int → Bool} {a b : Int} {r : Option Int} (h : FirstAt pred a b r) (h4 : ∀ y, a ≤ y → y ≤ b → pred y = false) : r = none := by
  cases r with
  | none => rfl
  | some z => obtain ⟨k1, k2, k3, k4⟩ := h; have := h4 z k1 k2; rw [k3] at this; cases this

theorem goodDay_at {lv a b x : Int} {ins outs : List Int} (hd : goodDay lv a b ins outs = true) (h1 : a ≤ x) (h2 : x ≤ b) : goodDay x a b ins outs = true := by
  obtain ⟨k1, k2, k3, k4, k5⟩ := goodDay_iff.1 hd
  have := goodTank_iff.1 k1
  exact goodDay_iff.2 ⟨goodTank_iff.2 (by omega), k2, k3, k4, k5⟩

set_option maxHeartbeats 1000000 in
theorem i_firstLevel (F : Nat) (pred : Int → Bool) (r : Option Int) (hF : enters F) (lv a b : Int) (p q : Option Addr) (n c d : Nat) (ins outs : List Int) (w : World) (h : IntsAt w p n ins) (h' : IntsAt w q n outs) (hd : goodDay lv a b ins outs = true) (hr : FirstAt pred a b r)
    (HF : ∀ (x : Int) (a1 : Option Addr) (c1 : Nat) (a2 : Option Addr) (c2 : Nat) (a3 : Option Addr) (c3 : Nat) (w' : World), a ≤ x → x ≤ b → IntsAt w' a1 n (levelsOf a b x ins outs n) → IntsAt w' a3 n (missOf a b x ins outs n) →
      Calls Try.prog F #[.int .i64 x, .agg #[.slice a1 n c1, .slice a2 n c2, .slice a3 n c3]] w' fun e w'' => e = .returned (.bool (pred x)) ∧ Below w'.heap.size w' w'') :
    Calls Try.prog 64 #[.agg #[.int .i64 lv, .int .i64 a, .int .i64 b], .slice p n c, .slice q n d, .func (.func F) #[] #[]] w fun e w' => e = .returned (.tuple #[.int .i64 (optVal r), .bool r.isSome]) ∧ Below w.heap.size w w' := by
  have hab := goodTank_iff.1 (goodDay_iff.1 hd).1
  have H := hid h
  have H' := hid h'
  have HD := hid hd
  have HR := hid hr
  have HH := hid HF
  clear h h' hd hr HF
  unfold enters at hF
  go_enter Try.func64, Try.ntmps64
  go_wp2
  go_loopg [10] (b + 1 - a).toNat (fun g i wr => ∃ x : Int, a ≤ x ∧ x ≤ b + 1 ∧ g = (b + 1 - x).toNat ∧ i = .int .i64 x ∧ Hid (Below w.heap.size w wr ∧ (∃ z : Int, wr.heap[w.heap.size]? = some (.cells #[.int .i64 z, .int .i64 a, .int .i64 b] 25 (0, 0))) ∧ ∀ y, a ≤ y → y < x → pred y = false))
  case atStart => exact ⟨a, by omega, by omega, rfl, rfl, (Below.refl _ _).alloc (Nat.le_refl _) _, ⟨lv, heap_alloc_new w _⟩, fun y h1 h2 => by omega⟩
  case round =>
    obtain ⟨x, hx1, hx2, rfl, rfl, hh⟩ := hrel
    obtain ⟨z, hz4⟩ := hh.out.2.1
    have m0 : wr.cell? ⟨w.heap.size, 0, none⟩ = some (.int .i64 z) := by rw [cell_of_row wr _ _ _ _ (0, 0) hz4]; rfl
    have m1 : wr.cell? ⟨w.heap.size, 1, none⟩ = some (.int .i64 a) := by rw [cell_of_row wr _ _ _ _ (0, 0) hz4]; rfl
    have m2 : wr.cell? ⟨w.heap.size, 2, none⟩ = some (.int .i64 b) := by rw [cell_of_row wr _ _ _ _ (0, 0) hz4]; rfl
    have f0 : wr.frozen? ⟨w.heap.size, 0, none⟩ = false := frozen_of_row wr _ 0 _ _ hz4
    have H4 := hid hz4
    clear hz4
    by_cases hlt : x ≤ b
    · have hs := heap_setCell_same wr _ 0 _ _ (.int .i64 x) H4.out
      have HS := hid hs
      have Bs := hid (hh.out.1.setCell (p := ⟨w.heap.size, 0, none⟩) (Nat.le_refl _) (.int .i64 x))
      clear hs
      go_wp2_with fail
      refine (i_runDay _ _ _ _ _ _ _ _ ins outs _ (H.out.below Bs.out) (H'.out.below Bs.out) (goodDay_at HD.out hx1 hlt)).mono ?_
      rintro e w2 ⟨a1, c1, a2, c2, a3, c3, rfl, hb2, o1, o2, o3⟩
      have hblk := (hb2.block w.heap.size (by have := (Array.getElem?_eq_some_iff.1 HS.out).1; simpa using this)).trans HS.out
      have HB := hid hblk
      have B2 := hid (bstep Bs.out hb2)
      have O1 := hid o1
      have O3 := hid o3
      clear o1 o2 o3 hblk hb2 m0 m1 m2 f0
      go_wp2_with fail
      refine (HH.out x _ _ _ _ _ _ _ hx1 hlt O1.out.at O3.out.at).mono ?_
      rintro e w3 ⟨rfl, hb3⟩
      have hblk := (hb3.block w.heap.size (Array.getElem?_eq_some_iff.1 HB.out).1).trans HB.out
      have HB3 := hid hblk
      have B3 := hid (bstep B2.out hb3)
      clear hblk hb3
      cases hp : pred x
      · have HP := hid hp
        clear hp
        go_wp2
        go_roundg (b + 1 - (x + 1)).toNat
        case measure => omega
        case rel =>
          refine ⟨x + 1, by omega, by omega, rfl, rfl, B3.out, ⟨x, by simpa using HB3.out⟩, fun y h1 h2 => ?_⟩
          by_cases e : y = x
          · subst e; exact HP.out
          · exact hh.out.2.2 y h1 (by omega)
      · have HP := hid (firstAt_step HR.out hx1 hlt hp hh.out.2.2)
        clear hp
        go_wp2
        go_ret2
        refine ⟨?_, B3.out⟩
        rw [HP.out]; rfl
    · have HP := hid (firstAt_end HR.out (fun y h1 h2 => hh.out.2.2 y h1 (by omega)))
      go_wp2
      go_ret2
      refine ⟨?_, hh.out.1⟩
      rw [HP.out]; rfl

end Go.Proofs.Ytbeeonpefmdkeaa
