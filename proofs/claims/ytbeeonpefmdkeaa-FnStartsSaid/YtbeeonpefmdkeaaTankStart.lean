/-
  LeastStart and SteadyLevel, in the program and in the reference.
-/
import Derived.Test.YtbeeonpefmdkeaaTankFirst
set_option linter.unusedVariables false
set_option linter.unusedSimpArgs false
namespace Go.Proofs.Ytbeeonpefmdkeaa
open Go.RowKit

theorem enters_LeastStart : enters 69 := by intro args w; kernel_rfl
theorem enters_SteadyLevel : enters 65 := by intro args w; kernel_rfl

theorem i_LeastStart1 (x : Int) (a1 a2 a3 : Option Addr) (n1 c1 n2 c2 n c3 : Nat) (l : List Int) (w : World) (h : IntsAt w a3 n l) (hn : n ≤ 4194304) (hv : ∀ x ∈ l, -1000000000000 ≤ x ∧ x ≤ 1000000000000) :
    Calls Try.prog 69 #[.int .i64 x, .agg #[.slice a1 n1 c1, .slice a2 n2 c2, .slice a3 n c3]] w fun e w' => e = .returned (.bool (l.sum == 0)) ∧ Below w.heap.size w w' := by
  have H := hid h
  have HV := hid hv
  clear h hv
  go_enter Try.func69, Try.ntmps69
  go_wp2_with fail
  refine (i_sumInts _ _ _ _ _ (H.out.below (by go_grown)) hn HV.out).mono ?_
  rintro e _ ⟨rfl, rfl⟩
  go_wp2
  go_ret
  exact ⟨rfl, by go_grown⟩

theorem i_SteadyLevel1 (x : Int) (a1 a2 a3 : Option Addr) (n c1 n2 c2 n3 c3 : Nat) (l : List Int) (w : World) (h : IntsAt w a1 n l) (hn : 1 ≤ n ∧ n ≤ 1048576) :
    Calls Try.prog 65 #[.int .i64 x, .agg #[.slice a1 n c1, .slice a2 n2 c2, .slice a3 n3 c3]] w fun e w' => e = .returned (.bool (l[n - 1]?.getD 0 == x)) ∧ Below w.heap.size w w' := by
  have H := hid h
  clear h
  go_enter Try.func65, Try.ntmps65
  go_wp2_with fail
  refine (m_end _ _ _ _ _ _ _ _ _ _ _ (H.out.below (by go_grown)) hn).mono ?_
  rintro e w1 ⟨rfl, hb1⟩
  go_wp2
  go_ret
  refine ⟨rfl, ?_⟩
  repeat' (first | (with_reducible exact Below.refl _ _) | (with_reducible assumption) | (with_reducible refine bstep ?_ (by with_reducible assumption)) | (with_reducible refine Below.alloc ?_ ?_ _) | (with_reducible refine Below.setCell ?_ ?_ _) | (with_reducible refine Below.drew ?_) | (with_reducible refine below_drewN ?_ _) | omega | (simp only [World.size_alloc, World.size_setCell, World.size_drew]; omega) | (simp; omega))

theorem i_LeastStart_yes (r : Option Int) (lv a b : Int) (p q : Option Addr) (n c d : Nat) (ins outs : List Int) (w : World) (h : IntsAt w p n ins) (h' : IntsAt w q n outs) (hd : goodDay lv a b ins outs = true) (hr : FirstAt (fun x => (missOf a b x ins outs n).sum == 0) a b r) :
    Calls Try.prog 34 #[.agg #[.int .i64 lv, .int .i64 a, .int .i64 b], .slice p n c, .slice q n d] w fun e w' => e = .returned (.tuple #[.int .i64 (optVal r), .bool r.isSome]) ∧ Below w.heap.size w w' := by
  have hn : n = ins.length ∧ 1 ≤ n ∧ n ≤ 12 := by have := h.1; have := goodDay_iff.1 hd; omega
  have HN := hid hn
  have H := hid h
  have H' := hid h'
  have HD := hid hd
  have HR := hid hr
  clear h h' hr hn
  go_enter Try.func34, Try.ntmps34
  go_wp2_with fail
  refine (i_isTankDay _ _ _ _ _ _ _ _ _ _ _ _ (H.out.below (by go_grown)) (H'.out.below (by go_grown)) (by have := HN.out; omega) (by have := HN.out; omega)).mono ?_
  rintro e w1 ⟨rfl, hb1⟩
  obtain ⟨hc_w1, hf_w1⟩ := bcell hb1
  have B1 := hid (bstep (((Below.refl _ _).alloc (Nat.le_refl _) _ : Below w.heap.size w _)) hb1)
  go_wp2_with fail
  refine (i_firstLevel 69 (fun x => (missOf a b x ins outs n).sum == 0) r enters_LeastStart _ _ _ _ _ _ _ _ ins outs _ (H.out.below B1.out) (H'.out.below B1.out) HD.out HR.out (fun x a1 c1 a2 c2 a3 c3 w' h1 h2 g1 g3 => i_LeastStart1 x a1 a2 a3 n c1 n c2 n c3 _ w' g3 (by have := HN.out; omega) (by have e := wide (miss_bound (goodDay_at HD.out h1 h2)); rw [← HN.out.1] at e; exact e))).mono ?_
  rintro e w2 ⟨rfl, hb2⟩
  have B2 := hid (bstep B1.out hb2)
  go_wp2
  go_ret2
  exact ⟨rfl, B2.out⟩

theorem i_SteadyLevel_yes (r : Option Int) (lv a b : Int) (p q : Option Addr) (n c d : Nat) (ins outs : List Int) (w : World) (h : IntsAt w p n ins) (h' : IntsAt w q n outs) (hd : goodDay lv a b ins outs = true) (hr : FirstAt (fun x => lvAt a b x ins outs n == x) a b r) :
    Calls Try.prog 30 #[.agg #[.int .i64 lv, .int .i64 a, .int .i64 b], .slice p n c, .slice q n d] w fun e w' => e = .returned (.tuple #[.int .i64 (optVal r), .bool r.isSome]) ∧ Below w.heap.size w w' := by
  have hn : n = ins.length ∧ 1 ≤ n ∧ n ≤ 12 := by have := h.1; have := goodDay_iff.1 hd; omega
  have HN := hid hn
  have H := hid h
  have H' := hid h'
  have HD := hid hd
  have HR := hid hr
  clear h h' hr hn
  go_enter Try.func30, Try.ntmps30
  go_wp2_with fail
  refine (i_isTankDay _ _ _ _ _ _ _ _ _ _ _ _ (H.out.below (by go_grown)) (H'.out.below (by go_grown)) (by have := HN.out; omega) (by have := HN.out; omega)).mono ?_
  rintro e w1 ⟨rfl, hb1⟩
  obtain ⟨hc_w1, hf_w1⟩ := bcell hb1
  have B1 := hid (bstep (((Below.refl _ _).alloc (Nat.le_refl _) _ : Below w.heap.size w _)) hb1)
  go_wp2_with fail
  refine (i_firstLevel 65 (fun x => lvAt a b x ins outs n == x) r enters_SteadyLevel _ _ _ _ _ _ _ _ ins outs _ (H.out.below B1.out) (H'.out.below B1.out) HD.out HR.out (fun x a1 c1 a2 c2 a3 c3 w' h1 h2 g1 g3 => (i_SteadyLevel1 x a1 a2 a3 n c1 n c2 n c3 _ w' g1 (by have := HN.out; omega)).mono (fun e w'' ⟨he, hb⟩ => ⟨by rw [he]; obtain ⟨m, hm⟩ : ∃ m, n = m + 1 := ⟨n - 1, by have := HN.out; omega⟩; subst hm; rw [show m + 1 - 1 = m from rfl, levels_last], hb⟩))).mono ?_
  rintro e w2 ⟨rfl, hb2⟩
  have B2 := hid (bstep B1.out hb2)
  go_wp2
  go_ret2
  exact ⟨rfl, B2.out⟩

set_option maxHeartbeats 1000000 in
theorem s_LeastStart_yes (r : Option Int) (lv a b : Int) (p q : Option Addr) (n c d : Nat) (ins outs : List Int) (w : World) (h : IntsAt w p n ins) (h' : IntsAt w q n outs) (hd : goodDay lv a b ins outs = true) (hr : FirstAt (fun x => (missOf a b x ins outs n).sum == 0) a b r) :
    Calls Try.prog 33 #[.agg #[.int .i64 lv, .int .i64 a, .int .i64 b], .slice p n c, .slice q n d] w fun e w' => e = .returned (.tuple #[.int .i64 (optVal r), .bool r.isSome]) ∧ Below w.heap.size w w' := by
  have hab := goodTank_iff.1 (goodDay_iff.1 hd).1
  have hn : n = ins.length ∧ 1 ≤ n ∧ n ≤ 12 := by have := h.1; have := goodDay_iff.1 hd; omega
  have HN := hid hn
  have H := hid h
  have H' := hid h'
  have HD := hid hd
  have HR := hid hr
  clear h h' hr hn
  go_enter Try.func33, Try.ntmps33
  go_wp2_with fail
  refine (s_l11Day _ _ _ _ _ _ _ _ _ _ _ _ (H.out.below (by go_grown)) (H'.out.below (by go_grown)) (by have := HN.out; omega) (by have := HN.out; omega)).mono ?_
  rintro e w1 ⟨rfl, hb1⟩
  obtain ⟨hc_w1, hf_w1⟩ := bcell hb1
  have e4 : w1.heap[w.heap.size]? = some (.cells #[.int .i64 lv, .int .i64 a, .int .i64 b] 25 (0, 0)) := by
    rw [hb1.block _ (by simp)]; exact heap_alloc_new w _
  have B1 := hid (bstep (((Below.refl _ _).alloc (Nat.le_refl _) _ : Below w.heap.size w _)) hb1)
  have E4 := hid e4
  have m1 : w1.cell? ⟨w.heap.size, 1, none⟩ = some (.int .i64 a) := by rw [cell_of_row w1 _ _ _ _ (0, 0) e4]; rfl
  clear e4 hc_w1 hf_w1 hb1
  go_wp2
  clear m1 hd
  go_loopg [8] (b + 1 - a).toNat (fun g i wr => ∃ x : Int, a ≤ x ∧ x ≤ b + 1 ∧ g = (b + 1 - x).toNat ∧ i = .int .i64 x ∧ Hid (Below w.heap.size w wr ∧ wr.heap[w.heap.size]? = some (.cells #[.int .i64 lv, .int .i64 a, .int .i64 b] 25 (0, 0)) ∧ ∀ y, a ≤ y → y < x → (fun x => (missOf a b x ins outs n).sum == 0) y = false))
  case atStart => exact ⟨a, by omega, by omega, rfl, rfl, B1.out, E4.out, fun y h1 h2 => by omega⟩
  case round =>
    obtain ⟨x, hx1, hx2, rfl, rfl, hh⟩ := hrel
    have m0 : wr.cell? ⟨w.heap.size, 0, none⟩ = some (.int .i64 lv) := by rw [cell_of_row wr _ _ _ _ (0, 0) hh.out.2.1]; rfl
    have m1 : wr.cell? ⟨w.heap.size, 1, none⟩ = some (.int .i64 a) := by rw [cell_of_row wr _ _ _ _ (0, 0) hh.out.2.1]; rfl
    have m2 : wr.cell? ⟨w.heap.size, 2, none⟩ = some (.int .i64 b) := by rw [cell_of_row wr _ _ _ _ (0, 0) hh.out.2.1]; rfl
    by_cases hlt : x ≤ b
    · go_wp2_with fail
      refine (s_runDay _ _ _ _ _ _ _ _ _ ins outs _ (H.out.below hh.out.1) (H'.out.below hh.out.1) (goodDay_at HD.out hx1 hlt)).mono ?_
      rintro e w2 ⟨a1, c1, a2, c2, a3, c3, rfl, hb2, o1, o2, o3⟩
      have HB3 := hid ((hb2.block w.heap.size (Array.getElem?_eq_some_iff.1 hh.out.2.1).1).trans hh.out.2.1)
      have B3 := hid (bstep hh.out.1 hb2)
      have O3 := hid o3
      have W3 := hid (wide (miss_bound (goodDay_at HD.out hx1 hlt)))
      rw [← HN.out.1] at W3
      clear o1 o2 o3 hb2 m0 m1 m2
      go_wp2_with fail
      refine (s_l8Sum _ _ _ _ _ O3.out.at (by have := HN.out; omega) W3.out).mono ?_
      rintro e _ ⟨rfl, rfl⟩
      cases hp : (fun x => (missOf a b x ins outs n).sum == 0) x
      · have hpx : ((missOf a b x ins outs n).sum == 0) = false := hp
        have HP := hid hp
        clear hp
        go_wp2
        go_roundg (b + 1 - (x + 1)).toNat
        case measure => omega
        case rel =>
          refine ⟨x + 1, by omega, by omega, rfl, rfl, B3.out, HB3.out, fun y h1 h2 => ?_⟩
          by_cases e : y = x
          · subst e; exact HP.out
          · exact hh.out.2.2 y h1 (by omega)
      · have hpx : ((missOf a b x ins outs n).sum == 0) = true := hp
        have HP := hid (firstAt_step HR.out hx1 hlt hp hh.out.2.2)
        clear hp
        go_wp2
        go_ret2
        refine ⟨?_, B3.out⟩
        rw [HP.out]; rfl
    · have HP := hid (firstAt_end HR.out (fun y h1 h2 => hh.out.2.2 y h1 (by omega)))
      go_wp2
      go_ret2
      refine ⟨?_, hh.out.1⟩
      rw [HP.out]; rfl

set_option maxHeartbeats 1000000 in
theorem s_SteadyLevel_yes (r : Option Int) (lv a b : Int) (p q : Option Addr) (n c d : Nat) (ins outs : List Int) (w : World) (h : IntsAt w p n ins) (h' : IntsAt w q n outs) (hd : goodDay lv a b ins outs = true) (hr : FirstAt (fun x => lvAt a b x ins outs n == x) a b r) :
    Calls Try.prog 29 #[.agg #[.int .i64 lv, .int .i64 a, .int .i64 b], .slice p n c, .slice q n d] w fun e w' => e = .returned (.tuple #[.int .i64 (optVal r), .bool r.isSome]) ∧ Below w.heap.size w w' := by
  have hab := goodTank_iff.1 (goodDay_iff.1 hd).1
  have hn : n = ins.length ∧ 1 ≤ n ∧ n ≤ 12 := by have := h.1; have := goodDay_iff.1 hd; omega
  have HN := hid hn
  have H := hid h
  have H' := hid h'
  have HD := hid hd
  have HR := hid hr
  clear h h' hr hn
  go_enter Try.func29, Try.ntmps29
  go_wp2_with fail
  refine (s_l11Day _ _ _ _ _ _ _ _ _ _ _ _ (H.out.below (by go_grown)) (H'.out.below (by go_grown)) (by have := HN.out; omega) (by have := HN.out; omega)).mono ?_
  rintro e w1 ⟨rfl, hb1⟩
  obtain ⟨hc_w1, hf_w1⟩ := bcell hb1
  have e4 : w1.heap[w.heap.size]? = some (.cells #[.int .i64 lv, .int .i64 a, .int .i64 b] 25 (0, 0)) := by
    rw [hb1.block _ (by simp)]; exact heap_alloc_new w _
  have B1 := hid (bstep (((Below.refl _ _).alloc (Nat.le_refl _) _ : Below w.heap.size w _)) hb1)
  have E4 := hid e4
  have m1 : w1.cell? ⟨w.heap.size, 1, none⟩ = some (.int .i64 a) := by rw [cell_of_row w1 _ _ _ _ (0, 0) e4]; rfl
  clear e4 hc_w1 hf_w1 hb1
  go_wp2
  clear m1 hd
  go_loopg [8] (b + 1 - a).toNat (fun g i wr => ∃ x : Int, a ≤ x ∧ x ≤ b + 1 ∧ g = (b + 1 - x).toNat ∧ i = .int .i64 x ∧ Hid (Below w.heap.size w wr ∧ wr.heap[w.heap.size]? = some (.cells #[.int .i64 lv, .int .i64 a, .int .i64 b] 25 (0, 0)) ∧ ∀ y, a ≤ y → y < x → (fun x => lvAt a b x ins outs n == x) y = false))
  case atStart => exact ⟨a, by omega, by omega, rfl, rfl, B1.out, E4.out, fun y h1 h2 => by omega⟩
  case round =>
    obtain ⟨x, hx1, hx2, rfl, rfl, hh⟩ := hrel
    have m0 : wr.cell? ⟨w.heap.size, 0, none⟩ = some (.int .i64 lv) := by rw [cell_of_row wr _ _ _ _ (0, 0) hh.out.2.1]; rfl
    have m1 : wr.cell? ⟨w.heap.size, 1, none⟩ = some (.int .i64 a) := by rw [cell_of_row wr _ _ _ _ (0, 0) hh.out.2.1]; rfl
    have m2 : wr.cell? ⟨w.heap.size, 2, none⟩ = some (.int .i64 b) := by rw [cell_of_row wr _ _ _ _ (0, 0) hh.out.2.1]; rfl
    by_cases hlt : x ≤ b
    · go_wp2_with fail
      refine (s_l11After _ _ _ _ _ _ _ _ _ ins outs _ (H.out.below hh.out.1) (H'.out.below hh.out.1) (goodDay_at HD.out hx1 hlt)).mono ?_
      rintro e w2 ⟨rfl, hb2⟩
      have HB3 := hid ((hb2.block w.heap.size (Array.getElem?_eq_some_iff.1 hh.out.2.1).1).trans hh.out.2.1)
      have B3 := hid (bstep hh.out.1 hb2)
      clear hb2 m0 m1 m2
      cases hp : (fun x => lvAt a b x ins outs n == x) x
      · have hpx : (lvAt a b x ins outs n == x) = false := hp
        have HP := hid hp
        clear hp
        go_wp2
        go_roundg (b + 1 - (x + 1)).toNat
        case measure => omega
        case rel =>
          refine ⟨x + 1, by omega, by omega, rfl, rfl, B3.out, HB3.out, fun y h1 h2 => ?_⟩
          by_cases e : y = x
          · subst e; exact HP.out
          · exact hh.out.2.2 y h1 (by omega)
      · have hpx : (lvAt a b x ins outs n == x) = true := hp
        have HP := hid (firstAt_step HR.out hx1 hlt hp hh.out.2.2)
        clear hp
        go_wp2
        go_ret2
        refine ⟨?_, B3.out⟩
        rw [HP.out]; rfl
    · have HP := hid (firstAt_end HR.out (fun y h1 h2 => hh.out.2.2 y h1 (by omega)))
      go_wp2
      go_ret2
      refine ⟨?_, hh.out.1⟩
      rw [HP.out]; rfl

end Go.Proofs.Ytbeeonpefmdkeaa
