/-
  What the functions that ask whether a tank and a day are valid do.
-/
import Derived.Test.YtbeeonpefmdkeaaTankA
set_option linter.unusedVariables false
set_option linter.unusedSimpArgs false
namespace Go.Proofs.Ytbeeonpefmdkeaa
open Go.RowKit

theorem enters_isTankDay : enters 78 := by intro args w; kernel_rfl
theorem enters_FirstMissing : enters 60 := by intro args w; kernel_rfl

def goodDay (l a b : Int) (ins outs : List Int) : Bool := goodTank l a b && inR ins.length 1 12 && decide (outs.length = ins.length) && (ins ++ outs).all (fun x => inR x 0 100)

theorem goodDay_no1 {l a b : Int} {ins outs : List Int} (h : goodTank l a b = false) : goodDay l a b ins outs = false := by simp [goodDay, h]
theorem goodDay_no2 {l a b : Int} {ins outs : List Int} (h : inR ins.length 1 12 = false) : goodDay l a b ins outs = false := by simp [goodDay, h]
theorem goodDay_no3 {l a b : Int} {ins outs : List Int} (h : outs.length ≠ ins.length) : goodDay l a b ins outs = false := by simp [goodDay, h]
theorem goodDay_all {l a b : Int} {ins outs : List Int} (h1 : goodTank l a b = true) (h2 : inR ins.length 1 12 = true) (h3 : outs.length = ins.length) : goodDay l a b ins outs = (ins ++ outs).all (fun x => inR x 0 100) := by simp [goodDay, h1, h2, h3]
theorem goodDay_iff {l a b : Int} {ins outs : List Int} : goodDay l a b ins outs = true ↔ goodTank l a b = true ∧ (1 ≤ ins.length ∧ ins.length ≤ 12) ∧ outs.length = ins.length ∧ (∀ x ∈ ins, 0 ≤ x ∧ x ≤ 100) ∧ (∀ x ∈ outs, 0 ≤ x ∧ x ≤ 100) := by
  simp only [goodDay, Bool.and_eq_true, inR_iff, decide_eq_true_eq, List.all_eq_true, List.mem_append]
  constructor
  · rintro ⟨⟨⟨h1, h2⟩, h3⟩, h4⟩
    exact ⟨h1, by omega, h3, fun x hx => h4 x (Or.inl hx), fun x hx => h4 x (Or.inr hx)⟩
  · rintro ⟨h1, h2, h3, h4, h5⟩
    exact ⟨⟨⟨h1, by omega⟩, h3⟩, fun x hx => hx.elim (h4 x) (h5 x)⟩

theorem i_isTankDay1 (x : Int) (w : World) : Calls Try.prog 78 #[.int .i64 x] w fun e w' => e = .returned (.bool (!inR x 0 100)) ∧ Below w.heap.size w w' := by
  go_enter Try.func78, Try.ntmps78
  go_wp2_with fail
  refine (i_isHourly _ _).mono ?_
  rintro e _ ⟨rfl, rfl⟩
  go_wp2
  go_ret
  exact ⟨rfl, Below.refl _ _⟩

theorem i_isTankDay (l a b : Int) (p q : Option Addr) (n m c d : Nat) (ins outs : List Int) (w : World) (h : IntsAt w p n ins) (h' : IntsAt w q m outs) (hn : n ≤ 1048576) (hm : m ≤ 1048576) :
    Calls Try.prog 57 #[.agg #[.int .i64 l, .int .i64 a, .int .i64 b], .slice p n c, .slice q m d] w fun e w' => e = .returned (.bool (goodDay l a b ins outs)) ∧ Below w.heap.size w w' := by
  have H := hid h
  have H' := hid h'
  obtain ⟨hl, _⟩ := h
  obtain ⟨hl', _⟩ := h'
  have HL := hid hl
  have HL' := hid hl'
  clear hl hl'
  cases h1 : goodTank l a b
  · have F := hid (goodDay_no1 (ins := ins) (outs := outs) h1)
    go_enter Try.func57, Try.ntmps57
    go_wp2_with fail
    refine (i_IsValidTank _ _ _ _).mono ?_
    rintro e w1 ⟨rfl, hb1⟩
    obtain ⟨hc_w1, hf_w1⟩ := bcell hb1
    go_wp2
    go_ret
    refine ⟨ret_bool F.out.symm, ?_⟩
    repeat' (first | (with_reducible exact Below.refl _ _) | (with_reducible assumption) | (with_reducible refine bstep ?_ (by with_reducible assumption)) | (with_reducible refine Below.alloc ?_ ?_ _) | (with_reducible refine Below.setCell ?_ ?_ _) | (with_reducible refine Below.drew ?_) | (with_reducible refine below_drewN ?_ _) | omega | (simp only [World.size_alloc, World.size_setCell, World.size_drew]; omega) | (simp; omega))
  · cases h2 : inR (n : Int) 1 12
    · have F := hid (goodDay_no2 (l := l) (a := a) (b := b) (ins := ins) (outs := outs) (by rw [HL.out]; exact h2))
      go_enter Try.func57, Try.ntmps57
      go_wp2_with fail
      refine (i_IsValidTank _ _ _ _).mono ?_
      rintro e w1 ⟨rfl, hb1⟩
      obtain ⟨hc_w1, hf_w1⟩ := bcell hb1
      go_wp2_with fail
      refine (i_inside _ _ _ _).mono ?_
      rintro e _ ⟨rfl, rfl⟩
      go_wp2
      go_ret
      refine ⟨ret_bool F.out.symm, ?_⟩
      repeat' (first | (with_reducible exact Below.refl _ _) | (with_reducible assumption) | (with_reducible refine bstep ?_ (by with_reducible assumption)) | (with_reducible refine Below.alloc ?_ ?_ _) | (with_reducible refine Below.setCell ?_ ?_ _) | (with_reducible refine Below.drew ?_) | (with_reducible refine below_drewN ?_ _) | omega | (simp only [World.size_alloc, World.size_setCell, World.size_drew]; omega) | (simp; omega))
    · by_cases h3 : m = n
      · subst h3
        have F := hid (goodDay_all (ins := ins) (outs := outs) h1 (by rw [HL.out]; exact h2) (by rw [HL.out, HL'.out]))
        go_enter Try.func57, Try.ntmps57
        go_wp2_with fail
        refine (i_IsValidTank _ _ _ _).mono ?_
        rintro e w1 ⟨rfl, hb1⟩
        obtain ⟨hc_w1, hf_w1⟩ := bcell hb1
        go_wp2_with fail
        refine (i_inside _ _ _ _).mono ?_
        rintro e _ ⟨rfl, rfl⟩
        have B1 := hid (bstep ((Below.refl _ _).alloc (Nat.le_refl _) _ : Below w.heap.size w _) hb1)
        go_wp2_with fail
        refine (i_copyInts _ _ _ _ _ (H.out.below B1.out) (by omega)).mono ?_
        rintro e w2 ⟨a2, c2, rfl, hown, hb2⟩
        have B2 := hid (bstep B1.out hb2)
        have O := hid hown
        clear hown
        go_wp2_with (at_builtin; refine wp_append_ints _ rfl _ _ rfl w1.heap.size _ ins rfl O.out _ _ _ outs rfl (H'.out.below B2.out) (m + m) (by rw [HL.out]) (by omega) hb2.size ?_)
        intro a3 c3 w3 hown3 hgrow3 _
        have O3 := hid hown3
        have B3 := hid (B2.out.grown hgrow3 B2.out.size (fun k hk => Nat.le_trans B1.out.size (O.out.lt k hk).1))
        clear hown3 hgrow3
        go_wp2_with fail
        refine (f_ContainsFunc 78 #[] (fun x => !inR x 0 100) enters_isTankDay a3 (m + m) c3 (ins ++ outs) w3 O3.out.at (by omega) (fun x w' _ _ => i_isTankDay1 x w')).mono ?_
        rintro e w4 ⟨rfl, hb4⟩
        go_wp2
        go_ret
        refine ⟨ret_bool ?_, bstep B3.out hb4⟩
        rw [F.out]
        simp [List.all_eq_not_any_not]
      · have F := hid (goodDay_no3 (l := l) (a := a) (b := b) (ins := ins) (outs := outs) (by rw [HL.out, HL'.out]; exact h3))
        have h3' : ((m : Int) != (n : Int)) = true := by simp; omega
        go_enter Try.func57, Try.ntmps57
        go_wp2_with fail
        refine (i_IsValidTank _ _ _ _).mono ?_
        rintro e w1 ⟨rfl, hb1⟩
        obtain ⟨hc_w1, hf_w1⟩ := bcell hb1
        go_wp2_with fail
        refine (i_inside _ _ _ _).mono ?_
        rintro e _ ⟨rfl, rfl⟩
        go_wp2
        go_ret
        refine ⟨ret_bool F.out.symm, ?_⟩
        repeat' (first | (with_reducible exact Below.refl _ _) | (with_reducible assumption) | (with_reducible refine bstep ?_ (by with_reducible assumption)) | (with_reducible refine Below.alloc ?_ ?_ _) | (with_reducible refine Below.setCell ?_ ?_ _) | (with_reducible refine Below.drew ?_) | (with_reducible refine below_drewN ?_ _) | omega | (simp only [World.size_alloc, World.size_setCell, World.size_drew]; omega) | (simp; omega))

theorem goodDay_bad {l a b : Int} {ins outs : List Int} {k : Nat} (hk : k < ins.length) (hl : outs.length = ins.length) (h : inR (ins[k]?.getD 0) 0 100 = false ∨ inR (outs[k]?.getD 0) 0 100 = false) : goodDay l a b ins outs = false := by
  cases hg : goodDay l a b ins outs with
  | false => rfl
  | true =>
    exfalso
    obtain ⟨_, _, _, h4, h5⟩ := goodDay_iff.1 hg
    rcases h with h | h
    · have := h4 _ (getD_mem ins k hk)
      rw [inR_iff.2 this] at h; cases h
    · have := h5 _ (getD_mem outs k (by omega))
      rw [inR_iff.2 this] at h; cases h

theorem goodDay_ok {l a b : Int} {ins outs : List Int} (h1 : goodTank l a b = true) (h2 : inR ins.length 1 12 = true) (hl : outs.length = ins.length) (h : ∀ j, j < ins.length → inR (ins[j]?.getD 0) 0 100 = true ∧ inR (outs[j]?.getD 0) 0 100 = true) : goodDay l a b ins outs = true := by
  rw [goodDay_all h1 h2 hl, List.all_eq_true]
  intro x hx
  rcases List.mem_append.1 hx with hx | hx
  · obtain ⟨j, hj, rfl⟩ := List.mem_iff_getElem.1 hx
    have := (h j hj).1
    rw [List.getElem?_eq_getElem hj] at this; exact this
  · obtain ⟨j, hj, rfl⟩ := List.mem_iff_getElem.1 hx
    have := (h j (by omega)).2
    rw [List.getElem?_eq_getElem hj] at this; exact this

theorem s_l11Day (l a b : Int) (p q : Option Addr) (n m c d : Nat) (ins outs : List Int) (w : World) (h : IntsAt w p n ins) (h' : IntsAt w q m outs) (hn : n ≤ 1048576) (hm : m ≤ 1048576) :
    Calls Try.prog 55 #[.agg #[.int .i64 l, .int .i64 a, .int .i64 b], .slice p n c, .slice q m d] w fun e w' => e = .returned (.bool (goodDay l a b ins outs)) ∧ Below w.heap.size w w' := by
  have H := hid h
  have H' := hid h'
  have HL := hid h.1
  have HL' := hid h'.1
  clear h h'
  cases h1 : goodTank l a b
  · have F := hid (goodDay_no1 (ins := ins) (outs := outs) h1)
    go_enter Try.func55, Try.ntmps55
    go_wp2_with fail
    refine (s_l11Good _ _ _ _).mono ?_
    rintro e w1 ⟨rfl, hb1⟩
    obtain ⟨hc_w1, hf_w1⟩ := bcell hb1
    go_wp2
    go_ret
    refine ⟨ret_bool F.out.symm, ?_⟩
    repeat' (first | (with_reducible exact Below.refl _ _) | (with_reducible assumption) | (with_reducible refine bstep ?_ (by with_reducible assumption)) | (with_reducible refine Below.alloc ?_ ?_ _) | (with_reducible refine Below.setCell ?_ ?_ _) | (with_reducible refine Below.drew ?_) | (with_reducible refine below_drewN ?_ _) | omega | (simp only [World.size_alloc, World.size_setCell, World.size_drew]; omega) | (simp; omega))
  · cases h2 : inR (n : Int) 1 12
    · have F := hid (goodDay_no2 (l := l) (a := a) (b := b) (ins := ins) (outs := outs) (by rw [HL.out]; exact h2))
      go_enter Try.func55, Try.ntmps55
      go_wp2_with fail
      refine (s_l11Good _ _ _ _).mono ?_
      rintro e w1 ⟨rfl, hb1⟩
      obtain ⟨hc_w1, hf_w1⟩ := bcell hb1
      go_wp2_with fail
      refine (s_l1In _ _ _ _).mono ?_
      rintro e _ ⟨rfl, rfl⟩
      go_wp2
      go_ret
      refine ⟨ret_bool F.out.symm, ?_⟩
      repeat' (first | (with_reducible exact Below.refl _ _) | (with_reducible assumption) | (with_reducible refine bstep ?_ (by with_reducible assumption)) | (with_reducible refine Below.alloc ?_ ?_ _) | (with_reducible refine Below.setCell ?_ ?_ _) | (with_reducible refine Below.drew ?_) | (with_reducible refine below_drewN ?_ _) | omega | (simp only [World.size_alloc, World.size_setCell, World.size_drew]; omega) | (simp; omega))
    · by_cases h3 : m = n
      · subst h3
        have F1 := hid h1
        have F2 := hid h2
        go_enter Try.func55, Try.ntmps55
        go_wp2_with fail
        refine (s_l11Good _ _ _ _).mono ?_
        rintro e w1 ⟨rfl, hb1⟩
        obtain ⟨hc_w1, hf_w1⟩ := bcell hb1
        go_wp2_with fail
        refine (s_l1In _ _ _ _).mono ?_
        rintro e _ ⟨rfl, rfl⟩
        have B1 := hid (bstep ((Below.refl _ _).alloc (Nat.le_refl _) _ : Below w.heap.size w _) hb1)
        clear hb1 hc_w1 hf_w1
        go_wp2
        go_loop [7] (fun i => ∃ k : Nat, k ≤ m ∧ i = .int .i64 k ∧ Hid (∀ j, j < k → inR (ins[j]?.getD 0) 0 100 = true ∧ inR (outs[j]?.getD 0) 0 100 = true)) (fun i => m - (intOf i).toNat)
        case atStart => exact ⟨0, Nat.zero_le _, rfl, fun j hj => absurd hj (by omega)⟩
        case round =>
          obtain ⟨k, hk, rfl, hh⟩ := hrel
          by_cases hlt : k < m
          · obtain ⟨b1, off, rfl, hbw, hcell⟩ := (H.out.below B1.out).2 k hlt
            obtain ⟨b2, off2, rfl, hbw2, hcell2⟩ := (H'.out.below B1.out).2 k hlt
            cases hx : inR (ins[k]?.getD 0) 0 100
            · have F := hid (goodDay_bad (l := l) (a := a) (b := b) (ins := ins) (outs := outs) (k := k) (by have := HL.out; omega) (by have := HL.out; have := HL'.out; omega) (Or.inl hx))
              go_wp2_with fail
              refine (s_l11Volume _ _).mono ?_
              rintro e _ ⟨rfl, rfl⟩
              go_wp2
              go_ret
              exact ⟨ret_bool F.out.symm, B1.out⟩
            · cases hy : inR (outs[k]?.getD 0) 0 100
              · have F := hid (goodDay_bad (l := l) (a := a) (b := b) (ins := ins) (outs := outs) (k := k) (by have := HL.out; omega) (by have := HL.out; have := HL'.out; omega) (Or.inr hy))
                go_wp2_with fail
                refine (s_l11Volume _ _).mono ?_
                rintro e _ ⟨rfl, rfl⟩
                go_wp2_with fail
                refine (s_l11Volume _ _).mono ?_
                rintro e _ ⟨rfl, rfl⟩
                go_wp2
                go_ret
                exact ⟨ret_bool F.out.symm, B1.out⟩
              · go_wp2_with fail
                refine (s_l11Volume _ _).mono ?_
                rintro e _ ⟨rfl, rfl⟩
                go_wp2_with fail
                refine (s_l11Volume _ _).mono ?_
                rintro e _ ⟨rfl, rfl⟩
                go_wp2
                go_round
                case rel =>
                  refine ⟨k + 1, by omega, by go_num, fun j hj => ?_⟩
                  by_cases e : j = k
                  · subst e; exact ⟨hx, hy⟩
                  · exact hh.out j (by omega)
                case measure => simp [intOf]; omega
          · go_wp2
            go_ret
            refine ⟨ret_bool ?_, B1.out⟩
            have e1 := HL.out
            have e2 := HL'.out
            exact (goodDay_ok F1.out (by rw [e1]; exact F2.out) (by omega) (fun j hj => hh.out j (by omega))).symm
      · have F := hid (goodDay_no3 (l := l) (a := a) (b := b) (ins := ins) (outs := outs) (by rw [HL.out, HL'.out]; exact h3))
        have h3' : ((m : Int) != (n : Int)) = true := by simp; omega
        go_enter Try.func55, Try.ntmps55
        go_wp2_with fail
        refine (s_l11Good _ _ _ _).mono ?_
        rintro e w1 ⟨rfl, hb1⟩
        obtain ⟨hc_w1, hf_w1⟩ := bcell hb1
        go_wp2_with fail
        refine (s_l1In _ _ _ _).mono ?_
        rintro e _ ⟨rfl, rfl⟩
        go_wp2
        go_ret
        refine ⟨ret_bool F.out.symm, ?_⟩
        repeat' (first | (with_reducible exact Below.refl _ _) | (with_reducible assumption) | (with_reducible refine bstep ?_ (by with_reducible assumption)) | (with_reducible refine Below.alloc ?_ ?_ _) | (with_reducible refine Below.setCell ?_ ?_ _) | (with_reducible refine Below.drew ?_) | (with_reducible refine below_drewN ?_ _) | omega | (simp only [World.size_alloc, World.size_setCell, World.size_drew]; omega) | (simp; omega))

end Go.Proofs.Ytbeeonpefmdkeaa
