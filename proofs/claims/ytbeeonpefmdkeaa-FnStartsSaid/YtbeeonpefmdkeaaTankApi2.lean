/-
  WaterTaken and FirstMissing, in the program and in the reference.
-/
import Derived.Test.YtbeeonpefmdkeaaTankApi
set_option linter.unusedVariables false
set_option linter.unusedSimpArgs false
namespace Go.Proofs.Ytbeeonpefmdkeaa
open Go.RowKit

theorem field_day (x y z : Value) (w : World) : (Instr.field 70 (.agg #[x, y, z]) 2).run Try.prog w = .ok z w := by kernel_rfl

theorem outs_wide {l a b : Int} {ins outs : List Int} (hd : goodDay l a b ins outs = true) : ∀ x ∈ outs, 0 ≤ x ∧ x ≤ 1000 := fun x hx => by have := (goodDay_iff.1 hd).2.2.2.2 x hx; omega

theorem i_WaterTaken_yes (lv a b : Int) (p q : Option Addr) (n c d : Nat) (ins outs : List Int) (w : World) (h : IntsAt w p n ins) (h' : IntsAt w q n outs) (hd : goodDay lv a b ins outs = true) :
    Calls Try.prog 26 #[.agg #[.int .i64 lv, .int .i64 a, .int .i64 b], .slice p n c, .slice q n d] w fun e w' => e = .returned (.tuple #[.int .i64 (outs.sum - (missOf a b lv ins outs n).sum), .bool true]) ∧ Below w.heap.size w w' := by
  have BO := hid (wide (outs_wide hd))
  have LO := hid (sum_le (outs_wide hd))
  have HL := hid h'.1
  have hn : n = ins.length ∧ n ≤ 12 := by have := h.1; have := goodDay_iff.1 hd; omega
  have HN := hid hn
  have H := hid h
  have H' := hid h'
  have HD := hid hd
  have B2 := hid (wide (spills_bound hd))
  have B3 := hid (wide (miss_bound hd))
  have L2 := hid (sum_le (spills_bound hd))
  have L3 := hid (sum_le (miss_bound hd))
  rw [← hn.1] at B2 B3 L2 L3
  rw [spillsOf_length] at L2
  rw [missOf_length] at L3
  have hn2 : n ≤ 4194304 := by omega
  clear h h' hn
  have l3 := L3.out
  have lo := LO.out
  rw [HL.out] at lo
  have hn3 : n ≤ 12 := HN.out.2
  have E1 : IntKind.i64.wrap (outs.sum - (missOf a b lv ins outs n).sum) = outs.sum - (missOf a b lv ins outs n).sum := IntWalk.i64_in _ (by omega)
  clear lo l3
  have hfld := field_day
  go_enter Try.func26, Try.ntmps26
  go_wp2_with fail
  refine (i_isTankDay _ _ _ _ _ _ _ _ _ _ _ _ (H.out.below (by go_grown)) (H'.out.below (by go_grown)) (by have := HN.out; omega) (by have := HN.out; omega)).mono ?_
  rintro e w1 ⟨rfl, hb1⟩
  obtain ⟨hc_w1, hf_w1⟩ := bcell hb1
  have hz_w1_0 : w.heap.size < w1.heap.size := by have := hb1.size; (try simp only [World.size_alloc, World.size_setCell, World.size_drew] at this); omega
  have B1 := hid (bstep ((Below.refl _ _).alloc (Nat.le_refl _) _ : Below w.heap.size w _) hb1)
  have q0 : ∀ wy w5 : World, Below wy.heap.size wy w5 → (wy.cell? ⟨w.heap.size, 0, none⟩ = some (.int .i64 lv) ∧ wy.cell? ⟨w.heap.size, 1, none⟩ = some (.int .i64 a) ∧ wy.cell? ⟨w.heap.size, 2, none⟩ = some (.int .i64 b)) → (w5.cell? ⟨w.heap.size, 0, none⟩ = some (.int .i64 lv) ∧ w5.cell? ⟨w.heap.size, 1, none⟩ = some (.int .i64 a) ∧ w5.cell? ⟨w.heap.size, 2, none⟩ = some (.int .i64 b)) :=
    fun wy w5 hb ⟨x0, x1, x2⟩ => ⟨(hb.cell (World.block_lt_of_cell? wy _ x0)).trans x0, (hb.cell (World.block_lt_of_cell? wy _ x1)).trans x1, (hb.cell (World.block_lt_of_cell? wy _ x2)).trans x2⟩
  have Q0 := hid q0
  clear q0
  have m0 : w1.cell? ⟨w.heap.size, 0, none⟩ = some (.int .i64 lv) := by rw [hc_w1 _ _ (by simp)]; simp [go_sem]
  have m1 : w1.cell? ⟨w.heap.size, 1, none⟩ = some (.int .i64 a) := by rw [hc_w1 _ _ (by simp)]; simp [go_sem]
  have m2 : w1.cell? ⟨w.heap.size, 2, none⟩ = some (.int .i64 b) := by rw [hc_w1 _ _ (by simp)]; simp [go_sem]
  clear hc_w1 hf_w1
  have hn4 : Hid (n ≤ 4194304) := hn2
  go_upto_region 3 with fail
  go_region_held3 (fun w' => (w'.cell? ⟨w.heap.size, 0, none⟩ = some (.int .i64 lv) ∧ w'.cell? ⟨w.heap.size, 1, none⟩ = some (.int .i64 a) ∧ w'.cell? ⟨w.heap.size, 2, none⟩ = some (.int .i64 b))) (first | go_keep | exact Q0.out _ _ (by assumption) (by first | assumption | (refine ⟨?_, ?_, ?_⟩ <;> assumption) | simp [*]))
    (first | (go_at_call_of 62 (Value.slice q n d); refine (i_sumInts q n d outs _ (by exact (H'.out.below B1.out).below ((Below.refl _ _).drew)) hn4.out BO.out).mono ?_; rintro e _ ⟨rfl, rfl⟩) | (go_at_call 59; refine (i_runDay _ _ _ _ _ _ _ _ ins outs _ (by exact (H.out.below B1.out).below ((Below.refl _ _).drew)) (by exact (H'.out.below B1.out).below ((Below.refl _ _).drew)) HD.out).mono ?_; rintro e w2 ⟨a1, c1, a2, c2, a3, c3, rfl, hb2, o1, o2, o3⟩; have O3 := hid o3; clear o1 o2 o3) | (go_at_call 62; refine (i_sumInts _ n _ _ _ O3.out.at hn4.out B3.out).mono ?_; rintro e _ ⟨rfl, rfl⟩))
  all_goals go_wp2
  all_goals go_ret2
  all_goals exact ⟨rfl, bstep ((B1.out).drew) (by assumption)⟩

theorem s_WaterTaken_yes (lv a b : Int) (p q : Option Addr) (n c d : Nat) (ins outs : List Int) (w : World) (h : IntsAt w p n ins) (h' : IntsAt w q n outs) (hd : goodDay lv a b ins outs = true) :
    Calls Try.prog 25 #[.agg #[.int .i64 lv, .int .i64 a, .int .i64 b], .slice p n c, .slice q n d] w fun e w' => e = .returned (.tuple #[.int .i64 (outs.sum - (missOf a b lv ins outs n).sum), .bool true]) ∧ Below w.heap.size w w' := by
  have BO := hid (wide (outs_wide hd))
  have LO := hid (sum_le (outs_wide hd))
  have HL := hid h'.1
  have hn : n = ins.length ∧ n ≤ 12 := by have := h.1; have := goodDay_iff.1 hd; omega
  have HN := hid hn
  have H := hid h
  have H' := hid h'
  have HD := hid hd
  have B2 := hid (wide (spills_bound hd))
  have B3 := hid (wide (miss_bound hd))
  have L2 := hid (sum_le (spills_bound hd))
  have L3 := hid (sum_le (miss_bound hd))
  rw [← hn.1] at B2 B3 L2 L3
  rw [spillsOf_length] at L2
  rw [missOf_length] at L3
  have hn2 : n ≤ 4194304 := by omega
  clear h h' hn
  have l3 := L3.out
  have lo := LO.out
  rw [HL.out] at lo
  have hn3 : n ≤ 12 := HN.out.2
  go_enter Try.func25, Try.ntmps25
  go_wp2_with fail
  refine (s_l11Day _ _ _ _ _ _ _ _ _ _ _ _ (H.out.below (by go_grown)) (H'.out.below (by go_grown)) (by have := HN.out; omega) (by have := HN.out; omega)).mono ?_
  rintro e w1 ⟨rfl, hb1⟩
  obtain ⟨hc_w1, hf_w1⟩ := bcell hb1
  have hz_w1_0 : w.heap.size < w1.heap.size := by have := hb1.size; (try simp only [World.size_alloc, World.size_setCell, World.size_drew] at this); omega
  have B1 := hid (bstep ((Below.refl _ _).alloc (Nat.le_refl _) _ : Below w.heap.size w _) hb1)
  go_wp2_with fail
  refine (s_runDay _ _ _ _ _ _ _ _ _ ins outs _ (H.out.below B1.out) (H'.out.below B1.out) HD.out).mono ?_
  rintro e w2 ⟨a1, c1, a2, c2, a3, c3, rfl, hb2, o1, o2, o3⟩
  have O1 := hid o1
  have O2 := hid o2
  have O3 := hid o3
  have HB2 := hid (bstep B1.out hb2)
  clear o1 o2 o3 hb2
  go_wp2_with fail
  refine (s_l8Sum _ _ _ _ _ (H'.out.below HB2.out) hn2 BO.out).mono ?_
  rintro e _ ⟨rfl, rfl⟩
  go_wp2_with fail
  refine (s_l8Sum _ _ _ _ _ O3.out.at hn2 B3.out).mono ?_
  rintro e _ ⟨rfl, rfl⟩
  go_wp2
  go_ret2
  exact ⟨rfl, HB2.out⟩

def pos (x : Int) : Bool := decide (0 < x)
def firstMiss (a b lv : Int) (ins outs : List Int) (n : Nat) : Int := indexFn pos (missOf a b lv ins outs n)
def fmVal (x : Int) : Int := if x < 0 then 0 else x
def fmOk (x : Int) : Bool := decide (0 ≤ x)
theorem fm_neg {x : Int} (h : x < 0) : fmVal x = 0 ∧ fmOk x = false := by simp [fmVal, fmOk, h]
theorem fm_pos {x : Int} (h : ¬ x < 0) : fmVal x = x ∧ fmOk x = true := by simp [fmVal, fmOk, h] <;> omega

theorem indexFn_lo (p : Int → Bool) (l : List Int) : -1 ≤ indexFn p l ∧ indexFn p l ≤ (l.length : Int) := by
  unfold indexFn
  cases h : l.findIdx? p with
  | none => simp
  | some i =>
    obtain ⟨h1, _⟩ := List.findIdx?_eq_some_iff_getElem.1 h
    simp; omega

theorem i_FirstMissing1 (x : Int) (w : World) : Calls Try.prog 60 #[.int .i64 x] w fun e w' => e = .returned (.bool (pos x)) ∧ Below w.heap.size w w' := by
  go_enter Try.func60, Try.ntmps60
  go_wp2
  go_ret
  exact ⟨rfl, Below.refl _ _⟩

theorem i_FirstMissing_yes (lv a b : Int) (p q : Option Addr) (n c d : Nat) (ins outs : List Int) (w : World) (h : IntsAt w p n ins) (h' : IntsAt w q n outs) (hd : goodDay lv a b ins outs = true) :
    Calls Try.prog 23 #[.agg #[.int .i64 lv, .int .i64 a, .int .i64 b], .slice p n c, .slice q n d] w fun e w' => e = .returned (.tuple #[.int .i64 (fmVal (firstMiss a b lv ins outs n)), .bool (fmOk (firstMiss a b lv ins outs n))]) ∧ Below w.heap.size w w' := by
  have hn : n = ins.length ∧ n ≤ 12 := by have := h.1; have := goodDay_iff.1 hd; omega
  have HN := hid hn
  have H := hid h
  have H' := hid h'
  have HD := hid hd
  have B2 := hid (wide (spills_bound hd))
  have B3 := hid (wide (miss_bound hd))
  have L2 := hid (sum_le (spills_bound hd))
  have L3 := hid (sum_le (miss_bound hd))
  rw [← hn.1] at B2 B3 L2 L3
  rw [spillsOf_length] at L2
  rw [missOf_length] at L3
  have hn2 : n ≤ 4194304 := by omega
  clear h h' hn
  have hfld := field_day
  go_enter Try.func23, Try.ntmps23
  go_wp2_with fail
  refine (i_isTankDay _ _ _ _ _ _ _ _ _ _ _ _ (H.out.below (by go_grown)) (H'.out.below (by go_grown)) (by have := HN.out; omega) (by have := HN.out; omega)).mono ?_
  rintro e w1 ⟨rfl, hb1⟩
  obtain ⟨hc_w1, hf_w1⟩ := bcell hb1
  have hz_w1_0 : w.heap.size < w1.heap.size := by have := hb1.size; (try simp only [World.size_alloc, World.size_setCell, World.size_drew] at this); omega
  have B1 := hid (bstep ((Below.refl _ _).alloc (Nat.le_refl _) _ : Below w.heap.size w _) hb1)
  go_wp2_with fail
  refine (i_runDay _ _ _ _ _ _ _ _ ins outs _ (H.out.below B1.out) (H'.out.below B1.out) HD.out).mono ?_
  rintro e w2 ⟨a1, c1, a2, c2, a3, c3, rfl, hb2, o1, o2, o3⟩
  have O1 := hid o1
  have O2 := hid o2
  have O3 := hid o3
  have HB2 := hid (bstep B1.out hb2)
  clear o1 o2 o3 hb2
  go_wp2_with fail
  refine (f_IndexFunc 60 #[] pos enters_FirstMissing _ n _ _ _ O3.out.at hn2 (fun x w' _ _ => i_FirstMissing1 x w')).mono ?_
  rintro e w3 ⟨rfl, hb3⟩
  have HB3 := hid (bstep HB2.out hb3)
  by_cases hneg : indexFn pos (missOf a b lv ins outs n) < 0
  · have F := hid (fm_neg hneg)
    go_wp2
    go_ret2
    refine ⟨?_, HB3.out⟩
    show Ending.returned (.tuple #[.int .i64 0, .bool false]) = _
    unfold firstMiss
    rw [F.out.1, F.out.2]
  · have F := hid (fm_pos hneg)
    go_wp2
    go_ret2
    refine ⟨?_, HB3.out⟩
    show Ending.returned (.tuple #[.int .i64 (indexFn pos (missOf a b lv ins outs n)), .bool true]) = _
    unfold firstMiss
    rw [F.out.1, F.out.2]

theorem s_FirstMissing_yes (lv a b : Int) (p q : Option Addr) (n c d : Nat) (ins outs : List Int) (w : World) (h : IntsAt w p n ins) (h' : IntsAt w q n outs) (hd : goodDay lv a b ins outs = true) :
    Calls Try.prog 21 #[.agg #[.int .i64 lv, .int .i64 a, .int .i64 b], .slice p n c, .slice q n d] w fun e w' => e = .returned (.tuple #[.int .i64 (fmVal (firstMiss a b lv ins outs n)), .bool (fmOk (firstMiss a b lv ins outs n))]) ∧ Below w.heap.size w w' := by
  have hn : n = ins.length ∧ n ≤ 12 := by have := h.1; have := goodDay_iff.1 hd; omega
  have HN := hid hn
  have H := hid h
  have H' := hid h'
  have HD := hid hd
  have B2 := hid (wide (spills_bound hd))
  have B3 := hid (wide (miss_bound hd))
  have L2 := hid (sum_le (spills_bound hd))
  have L3 := hid (sum_le (miss_bound hd))
  rw [← hn.1] at B2 B3 L2 L3
  rw [spillsOf_length] at L2
  rw [missOf_length] at L3
  have hn2 : n ≤ 4194304 := by omega
  clear h h' hn
  go_enter Try.func21, Try.ntmps21
  go_wp2_with fail
  refine (s_l11Day _ _ _ _ _ _ _ _ _ _ _ _ (H.out.below (by go_grown)) (H'.out.below (by go_grown)) (by have := HN.out; omega) (by have := HN.out; omega)).mono ?_
  rintro e w1 ⟨rfl, hb1⟩
  obtain ⟨hc_w1, hf_w1⟩ := bcell hb1
  have hz_w1_0 : w.heap.size < w1.heap.size := by have := hb1.size; (try simp only [World.size_alloc, World.size_setCell, World.size_drew] at this); omega
  have B1 := hid (bstep ((Below.refl _ _).alloc (Nat.le_refl _) _ : Below w.heap.size w _) hb1)
  go_wp2_with fail
  refine (s_runDay _ _ _ _ _ _ _ _ _ ins outs _ (H.out.below B1.out) (H'.out.below B1.out) HD.out).mono ?_
  rintro e w2 ⟨a1, c1, a2, c2, a3, c3, rfl, hb2, o1, o2, o3⟩
  have O1 := hid o1
  have O2 := hid o2
  have O3 := hid o3
  have HB2 := hid (bstep B1.out hb2)
  clear o1 o2 o3 hb2
  have A3 := hid O3.out.at
  clear hc_w1 hf_w1 hb1
  go_wp2
  go_loop [11] (fun i => ∃ k : Nat, k ≤ n ∧ i = .int .i64 k ∧ Hid (∀ j, j < k → pos ((missOf a b lv ins outs n)[j]?.getD 0) = false)) (fun i => n - (intOf i).toNat)
  case atStart => exact ⟨0, Nat.zero_le _, rfl, fun j hj => absurd hj (by omega)⟩
  case round =>
    obtain ⟨k, hk, rfl, hh⟩ := hrel
    by_cases hlt : k < n
    · obtain ⟨b1, off, rfl, hbw, hcell⟩ := A3.out.2 k hlt
      by_cases hpos : 0 < (missOf a b lv ins outs n)[k]?.getD 0
      · have F := hid (indexFn_hit pos (missOf a b lv ins outs n) k (by rw [missOf_length]; exact hlt) (by simpa [pos] using hpos) hh.out)
        go_wp2
        go_ret2
        refine ⟨?_, HB2.out⟩
        show Ending.returned (.tuple #[.int .i64 (k : Int), .bool true]) = _
        unfold firstMiss
        rw [F.out, (fm_pos (x := (k : Int)) (by omega)).1, (fm_pos (x := (k : Int)) (by omega)).2]
      · go_wp2
        go_round
        case rel =>
          refine ⟨k + 1, by omega, by go_num, fun j hj => ?_⟩
          by_cases e : j = k
          · subst e; simpa [pos] using hpos
          · exact hh.out j (by omega)
        case measure => simp [intOf]; omega
    · go_wp2
      go_ret2
      refine ⟨?_, HB2.out⟩
      show Ending.returned (.tuple #[.int .i64 0, .bool false]) = _
      have F := indexFn_miss pos (missOf a b lv ins outs n) (fun j hj => hh.out j (by rw [missOf_length] at hj; omega))
      unfold firstMiss
      rw [F, (fm_neg (x := -1) (by omega)).1, (fm_neg (x := -1) (by omega)).2]

end Go.Proofs.Ytbeeonpefmdkeaa
