/-
  What the laws do with CurvePoints: they build them anew and compare them, mark them and look at the marks.
-/
import Derived.Test.YtpcbeapajlchgaaCurveA
set_option linter.unusedVariables false
set_option linter.unusedSimpArgs false
namespace Go.Proofs.Ytpcbeapajlchgaa
open Go.RowKit

theorem l_toCurvePoint (x0 x1 : Int) (w : World) : Calls Try.prog 54 #[.agg #[.int .i64 x0, .int .i64 x1]] w fun e w' => e = .returned (.agg #[.int .i64 x0, .int .i64 x1]) ∧ Below w.heap.size w w' := by
  go_enter Try.func54, Try.ntmps54
  go_wp2
  go_returns
  exact ⟨rfl, by go_grown⟩

theorem l_eqCurvePoint (x0 x1 : Int) (w : World) : Calls Try.prog 57 #[.agg #[.int .i64 x0, .int .i64 x1], .agg #[.int .i64 x0, .int .i64 x1]] w fun e w' => e = .returned (.bool true) ∧ Below w.heap.size w w' := by
  go_enter Try.func57, Try.ntmps57
  go_wp2
  go_ret
  exact ⟨rfl, by go_grown⟩

theorem Try.infoCurvePoint : (Try.prog.info? 52).map (fun i => (i.zero, i.size, i.bytes)) = some (some (.agg #[.int .i64 0, .int .i64 0]), 2, 16) := by kernel_rfl

theorem OwnP.len {w : World} {B : Nat} {a : Option Addr} {n c : Nat} {l : List Pt} (h : OwnP w B (.slice a n c) l) : l.length = n := OwnS.len h
theorem OwnP.cells {w : World} {B g k n c : Nat} {l : List Pt} (h : OwnP w B (.slice (some ⟨g, 0, none⟩) n c) l) (hk : k < n) :
    w.cell? ⟨g, k * 2, none⟩ = some (.int .i64 ((l[k]?.getD default).1)) ∧ w.cell? ⟨g, k * 2 + 1, none⟩ = some (.int .i64 ((l[k]?.getD default).2)) := by
  obtain ⟨b, off, h1, h2, h3⟩ := (OwnS.at pf_len h).2 k hk
  simp only [Option.some.injEq, Addr.mk.injEq] at h1
  obtain ⟨rfl, rfl, -⟩ := h1
  simp only [Nat.zero_add] at h3
  exact ⟨h3 0 (by decide), h3 1 (by decide)⟩
theorem OwnP.frozen {w : World} {B g k n c : Nat} {l : List Pt} (h : OwnP w B (.slice (some ⟨g, 0, none⟩) n c) l) :
    w.frozen? ⟨g, k * 2, none⟩ = false ∧ w.frozen? ⟨g, k * 2 + 1, none⟩ = false := ⟨OwnS.frozen h, OwnS.frozen h⟩

theorem l_toCurvePointS (a : Option Addr) (n c : Nat) (l : List Pt) (w : World) (h : PAt w a n l) (hn : n ≤ 1048576) :
    Calls Try.prog 17 #[.slice a n c] w fun e w' => ∃ a' c', e = .returned (.slice a' n c') ∧ OwnP w' w.heap.size (.slice a' n c') l ∧ Below w.heap.size w w' := by
  obtain ⟨i0, hi, hz0, hz1, hz2⟩ := info_parts Try.infoCurvePoint
  have H := hid h
  clear h
  have HI := hid hi
  have HZ := hid hz0
  have HZ1 := hid hz1
  have HZ2 := hid hz2
  clear hi hz0 hz1 hz2
  go_enter Try.func17, Try.ntmps17
  go_wp2_with (at_make; refine wpList_make_full _ rfl _ _ 25 rfl w.heap.size 52 i0 (.agg #[.int .i64 0, .int .i64 0]) 2 Try.underlying25 HI.out HZ.out HZ1.out _ _ _ _ n rfl rfl rfl rfl ?b2 ?b3 ?b4 ?_)
  case b2 => rw [HZ2.out]; omega
  case b3 => unfold maxLen; omega
  case b4 => exact Nat.le_refl _
  intro w1 hown hgrow
  have ho : OwnP w1 w.heap.size _ (List.replicate n ((0, 0) : Pt)) := OwnS.of_row pf_len (by decide) (n := n) (by rw [← madeFlat pf 2 pf_len (by decide) ((0, 0) : Pt) _ rfl n]; exact hown)
  have HO := hid ho
  have HB := hid (below_of_grown hgrow (Nat.le_refl _) (fun k hk => by simp at hk))
  clear hown ho hgrow
  go_wp2
  go_loopw [4] (fun i wr => ∃ (k : Nat) (l' : List Pt), k ≤ n ∧ i = .int .i64 k ∧ Hid (OwnP wr w.heap.size (.slice (some ⟨w.heap.size, 0, none⟩) n n) l' ∧ l'.take k = l.take k ∧ Below w.heap.size w wr)) (fun i _ => n - (intOf i).toNat)
  case atStart => exact ⟨0, List.replicate n (0, 0), Nat.zero_le _, rfl, HO.out, by simp, HB.out⟩
  case round =>
    obtain ⟨k, l', hk, rfl, hh⟩ := hrel
    clear HO HB
    by_cases hlt : k < n
    · obtain ⟨b, off, rfl, hbw, x0, x1⟩ := PAt.get (H.out.below hh.out.2.2) k hlt
      obtain ⟨y0, y1⟩ := hh.out.1.cells (k := k) hlt
      obtain ⟨f0, f1⟩ := hh.out.1.frozen (k := k)
      go_wp2_with fail
      refine (l_toCurvePoint _ _ _).mono ?_
      rintro e w2 ⟨rfl, hb⟩
      obtain ⟨hc, hf⟩ := bcell hb
      have hw1 : w.heap.size < wr.heap.size := (hh.out.1.lt _ rfl).2
      go_wp2
      go_roundw
      case rel =>
        obtain ⟨o1, g1⟩ := OwnS.setAll pf_len (by decide) (hh.out.1.below hb) hlt (l[k]?.getD default)
        exact ⟨k + 1, l'.set k (l[k]?.getD default), by omega, by go_num, o1, take_setS H.out.1 hh.out.1.len hlt hh.out.2.1, (bstep hh.out.2.2 hb).grown g1 (by have := hb.size; omega) (fun q hq => by simp at hq; omega)⟩
      case measure => simp [intOf]; omega
    · go_wp2
      go_ret
      have hl := hh.out.1.len
      have hl2 := H.out.1
      have e := hh.out.2.1
      rw [List.take_of_length_le (by omega), List.take_of_length_le (by omega)] at e
      subst e
      exact ⟨_, _, rfl, hh.out.1, hh.out.2.2⟩

theorem l_szCurvePointS_yes (a : Option Addr) (n c : Nat) (w : World) (hn : n ≤ 1048576) : Calls Try.prog 15 #[.slice a n c, .int .i64 1048576] w fun e w' => e = .returned (.int .i64 (1048576 - (n : Int))) ∧ w = w' := by
  go_enter Try.func15, Try.ntmps15
  go_wp2
  go_ret
  exact ⟨rfl, rfl⟩
theorem l_szCurvePointS_no (a : Option Addr) (n c : Nat) (w : World) (hn : 1048576 < n) (hn2 : n ≤ 9223372036854775807) : Calls Try.prog 15 #[.slice a n c, .int .i64 1048576] w fun e w' => e = .returned (.int .i64 (-1)) ∧ w = w' := by
  go_enter Try.func15, Try.ntmps15
  go_wp2
  go_ret
  exact ⟨rfl, rfl⟩

theorem l_eqCurvePointS (a b : Option Addr) (n c d : Nat) (l : List Pt) (w : World) (h : PAt w a n l) (h' : PAt w b n l) (hn : n ≤ 1048576) :
    Calls Try.prog 19 #[.slice a n c, .slice b n d] w fun e w' => e = .returned (.bool true) ∧ Below w.heap.size w w' := by
  have H := hid h
  have H' := hid h'
  clear h h'
  go_enter Try.func19, Try.ntmps19
  go_wp2
  go_loopg [5] n (fun g i wr => ∃ k : Nat, k ≤ n ∧ g = n - k ∧ i = .int .i64 k ∧ Hid (Below w.heap.size w wr))
  case atStart => exact ⟨0, Nat.zero_le _, rfl, rfl, Below.refl _ _⟩
  case round =>
    obtain ⟨k, hk, rfl, rfl, hh⟩ := hrel
    by_cases hlt : k < n
    · obtain ⟨b1, off1, rfl, hb1, x0, x1⟩ := PAt.get (H.out.below hh.out) k hlt
      obtain ⟨b2, off2, rfl, hb2, y0, y1⟩ := PAt.get (H'.out.below hh.out) k hlt
      go_upto_region 6 with fail
      have q0 : ∀ wy w5 : World, Below wy.heap.size wy w5 → (wy.cell? ⟨b1, off1 + k * 2, none⟩ = some (.int .i64 (pt l k).1) ∧ wy.cell? ⟨b1, off1 + k * 2 + 1, none⟩ = some (.int .i64 (pt l k).2) ∧ wy.cell? ⟨b2, off2 + k * 2, none⟩ = some (.int .i64 (pt l k).1) ∧ wy.cell? ⟨b2, off2 + k * 2 + 1, none⟩ = some (.int .i64 (pt l k).2)) → (w5.cell? ⟨b1, off1 + k * 2, none⟩ = some (.int .i64 (pt l k).1) ∧ w5.cell? ⟨b1, off1 + k * 2 + 1, none⟩ = some (.int .i64 (pt l k).2) ∧ w5.cell? ⟨b2, off2 + k * 2, none⟩ = some (.int .i64 (pt l k).1) ∧ w5.cell? ⟨b2, off2 + k * 2 + 1, none⟩ = some (.int .i64 (pt l k).2)) :=
        fun wy w5 hb ⟨z0, z1, z2, z3⟩ => ⟨(hb.cell (World.block_lt_of_cell? wy _ z0)).trans z0, (hb.cell (World.block_lt_of_cell? wy _ z1)).trans z1, (hb.cell (World.block_lt_of_cell? wy _ z2)).trans z2, (hb.cell (World.block_lt_of_cell? wy _ z3)).trans z3⟩
      have Q0 := hid q0
      clear q0
      go_cut [26] (fun s26 wx => s26 = .bool false ∧ Hid (Below wr.heap.size wr wx))
      case first =>
        go_region_held3 (fun w' => (w'.cell? ⟨b1, off1 + k * 2, none⟩ = some (.int .i64 (pt l k).1) ∧ w'.cell? ⟨b1, off1 + k * 2 + 1, none⟩ = some (.int .i64 (pt l k).2) ∧ w'.cell? ⟨b2, off2 + k * 2, none⟩ = some (.int .i64 (pt l k).1) ∧ w'.cell? ⟨b2, off2 + k * 2 + 1, none⟩ = some (.int .i64 (pt l k).2))) (first | go_keep | exact Q0.out _ _ (by assumption) (by first | assumption | (refine ⟨?_, ?_, ?_, ?_⟩ <;> assumption) | simp [*]))
          (first | (go_at_call 57; refine (l_eqCurvePoint _ _ _).mono ?_; rintro e w5 ⟨rfl, hb5⟩; obtain ⟨hc5, hf5⟩ := bcell hb5))
        all_goals (go_wp2_with fail; go_meet)
        all_goals refine ⟨rfl, ?_⟩
        all_goals exact bstep ((Below.refl _ _).drew : Below wr.heap.size wr _) (by assumption)
      case rest =>
        obtain ⟨rfl, hx⟩ := hcut
        clear Q0
        go_wp2
        go_roundg (n - (k + 1))
        case measure => omega
        case rel => exact ⟨k + 1, by omega, rfl, by go_num, bstep hh.out hx.out⟩
    · obtain rfl : k = n := by omega
      go_wp2
      go_ret
      exact ⟨rfl, hh.out⟩

/-- The marked list. -/
def markedCurvePoint (k0 : Int) (n : Nat) : List Pt := (List.range n).map (fun i : Nat => ((k0 + 2 * (i : Int), k0 + 2 * (i : Int) + 1) : Pt))
theorem markedCurvePoint_len (k0 : Int) (n : Nat) : (markedCurvePoint k0 n).length = n := by simp [markedCurvePoint]
theorem markedCurvePoint_get (k0 : Int) (n i : Nat) (h : i < n) : (markedCurvePoint k0 n)[i]?.getD default = ((k0 + 2 * (i : Int), k0 + 2 * (i : Int) + 1) : Pt) := by simp [markedCurvePoint, h]

theorem l_heldCurvePointS (a : Option Addr) (n c : Nat) (k0 : Int) (w : World) (h : PAt w a n (markedCurvePoint k0 n)) (hn : n ≤ 1048576) (hk : 0 ≤ k0 ∧ k0 ≤ 1000000000000) :
    Calls Try.prog 23 #[.slice a n c, .int .i64 k0] w fun e w' => e = .returned (.int .i64 (k0 + 2 * (n : Int))) ∧ w = w' := by
  have H := hid h
  clear h
  go_enter Try.func23, Try.ntmps23
  go_wp2
  go_loop [1, 5] (fun s i => ∃ k : Nat, k ≤ n ∧ i = .int .i64 k ∧ s = .int .i64 (k0 + 2 * (k : Int))) (fun _ i => n - (intOf i).toNat)
  case atStart => exact ⟨0, Nat.zero_le _, rfl, by simp⟩
  case round =>
    obtain ⟨k, hkn, rfl, rfl⟩ := hrel
    by_cases hlt : k < n
    · obtain ⟨b1, off1, rfl, hb1, hx⟩ := H.out.2 k hlt
      have x0 := hx 0 (by decide)
      have x1 := hx 1 (by decide)
      rw [markedCurvePoint_get k0 n k hlt] at x0 x1
      simp only [pf, List.getElem?_cons_zero, List.getElem?_cons_succ, Nat.add_zero] at x0 x1
      clear hx
      go_wp2
      go_round
      case rel => exact ⟨k + 1, by omega, by go_num, by congr 1; omega⟩
      case measure => simp [intOf]; omega
    · go_wp2
      go_ret
      exact ⟨ret_int (by omega), rfl⟩

theorem l_markCurvePointS (a : Option Addr) (n c B : Nat) (l : List Pt) (k0 : Int) (w : World) (h : OwnP w B (.slice a n c) l) (hn : n ≤ 1048576) (hk : 0 ≤ k0 ∧ k0 ≤ 1000000000000) :
    Calls Try.prog 22 #[.slice a n c, .int .i64 k0] w fun e w' => e = .returned (.int .i64 (k0 + 2 * (n : Int))) ∧ OwnP w' B (.slice a n c) (markedCurvePoint k0 n) ∧ w.grownBy w' (Value.ownBlock (.slice a n c)) := by
  have h0 := h
  unfold OwnP OwnS at h
  rcases h.2 with ⟨h1, h0'⟩ | ⟨g, cap, cur, h1, hB, hg, hnc, hm, hs, ht⟩
  · simp only [Value.slice.injEq] at h1
    obtain ⟨rfl, rfl, rfl⟩ := h1
    clear h h0 h0'
    go_enter Try.func22, Try.ntmps22
    go_wp2
    refine wp_loop_rounds 1 ?_
    rw [rounds_succ]
    go_wp2
    go_ret
    exact ⟨ret_int (by simp), OwnS.nil _ _, World.grownBy.refl _ _⟩
  · simp only [Value.slice.injEq] at h1
    obtain ⟨rfl, -, rfl⟩ := h1
    clear hg hs ht hm hnc hB h
    have H := hid h0
    have HN := hid (OwnS.len h0)
    clear h0
    go_enter Try.func22, Try.ntmps22
    go_wp2
    go_loopw [1, 5] (fun s i wr => ∃ (k : Nat) (l' : List Pt), k ≤ n ∧ i = .int .i64 k ∧ s = .int .i64 (k0 + 2 * (k : Int)) ∧ Hid (OwnP wr B (.slice (some ⟨g, 0, none⟩) n c) l' ∧ l'.take k = (markedCurvePoint k0 n).take k ∧ w.grownBy wr (some g))) (fun _ i _ => n - (intOf i).toNat)
    case atStart => exact ⟨0, l, Nat.zero_le _, rfl, by simp, H.out, by simp, World.grownBy.refl _ _⟩
    case round =>
      obtain ⟨k, l', hkn, rfl, rfl, hh⟩ := hrel
      by_cases hlt : k < n
      · obtain ⟨y0, y1⟩ := hh.out.1.cells (k := k) hlt
        obtain ⟨f0, f1⟩ := hh.out.1.frozen (k := k)
        go_wp2
        go_roundw
        case rel =>
          obtain ⟨o1, g1⟩ := OwnS.setAll pf_len (by decide) hh.out.1 hlt ((k0 + 2 * (k : Int), k0 + 2 * (k : Int) + 1) : Pt)
          exact ⟨k + 1, _, by omega, by go_num, by congr 1; omega, o1, by rw [← markedCurvePoint_get k0 n k hlt]; exact take_setS (markedCurvePoint_len _ _) hh.out.1.len hlt hh.out.2.1, grownBy_trans hh.out.2.2 g1⟩
        case measure => simp [intOf]; omega
      · go_wp2
        go_ret
        obtain rfl : k = n := by omega
        refine ⟨ret_int (by omega), ?_, hh.out.2.2⟩
        have e := hh.out.2.1
        rw [List.take_of_length_le (by have := hh.out.1.len; omega), List.take_of_length_le (by rw [markedCurvePoint_len]; omega)] at e
        subst e
        exact hh.out.1

end Go.Proofs.Ytpcbeapajlchgaa
