/-
  What the laws do with Pipes: they build them anew and compare them.
-/
import Derived.Test.YtheaagbffphdmaaPipeA
set_option linter.unusedVariables false
set_option linter.unusedSimpArgs false
namespace Go.Proofs.Ytheaagbffphdmaa
open Go.RowKit

theorem l_toPipe (x0 x1 x2 x3 : Int) (w : World) : Calls Try.prog 96 #[.agg #[.int .i64 x0, .int .i64 x1, .int .i64 x2, .int .i64 x3]] w fun e w' => e = .returned (.agg #[.int .i64 x0, .int .i64 x1, .int .i64 x2, .int .i64 x3]) ∧ Below w.heap.size w w' := by
  go_enter Try.func96, Try.ntmps96
  go_wp2
  go_returns
  exact ⟨rfl, by go_grown⟩

theorem l_eqPipe (x0 x1 x2 x3 : Int) (w : World) : Calls Try.prog 99 #[.agg #[.int .i64 x0, .int .i64 x1, .int .i64 x2, .int .i64 x3], .agg #[.int .i64 x0, .int .i64 x1, .int .i64 x2, .int .i64 x3]] w fun e w' => e = .returned (.bool true) ∧ Below w.heap.size w w' := by
  go_enter Try.func99, Try.ntmps99
  go_wp2
  go_ret
  exact ⟨rfl, by go_grown⟩

theorem Try.infoPipe : (Try.prog.info? 65).map (fun i => (i.zero, i.size, i.bytes)) = some (some (.agg #[.int .i64 0, .int .i64 0, .int .i64 0, .int .i64 0]), 4, 32) := by kernel_rfl

theorem OwnQ.len {w : World} {B : Nat} {a : Option Addr} {n c : Nat} {l : List Pip} (h : OwnQ w B (.slice a n c) l) : l.length = n := OwnS.len h
theorem OwnQ.cells {w : World} {B g k n c : Nat} {l : List Pip} (h : OwnQ w B (.slice (some ⟨g, 0, none⟩) n c) l) (hk : k < n) :
    w.cell? ⟨g, k * 4, none⟩ = some (.int .i64 ((l[k]?.getD default).1)) ∧ w.cell? ⟨g, k * 4 + 1, none⟩ = some (.int .i64 ((l[k]?.getD default).2.1)) ∧ w.cell? ⟨g, k * 4 + 2, none⟩ = some (.int .i64 ((l[k]?.getD default).2.2.1)) ∧ w.cell? ⟨g, k * 4 + 3, none⟩ = some (.int .i64 ((l[k]?.getD default).2.2.2)) := by
  obtain ⟨b, off, h1, h2, h3⟩ := (OwnS.at qf_len h).2 k hk
  simp only [Option.some.injEq, Addr.mk.injEq] at h1
  obtain ⟨rfl, rfl, -⟩ := h1
  simp only [Nat.zero_add] at h3
  exact ⟨h3 0 (by decide), h3 1 (by decide), h3 2 (by decide), h3 3 (by decide)⟩
theorem OwnQ.frozen {w : World} {B g k n c : Nat} {l : List Pip} (h : OwnQ w B (.slice (some ⟨g, 0, none⟩) n c) l) :
    w.frozen? ⟨g, k * 4, none⟩ = false ∧ w.frozen? ⟨g, k * 4 + 1, none⟩ = false ∧ w.frozen? ⟨g, k * 4 + 2, none⟩ = false ∧ w.frozen? ⟨g, k * 4 + 3, none⟩ = false := ⟨OwnS.frozen h, OwnS.frozen h, OwnS.frozen h, OwnS.frozen h⟩

theorem l_toPipeS (a : Option Addr) (n c : Nat) (l : List Pip) (w : World) (h : QAt w a n l) (hn : n ≤ 1048576) :
    Calls Try.prog 52 #[.slice a n c] w fun e w' => ∃ a' c', e = .returned (.slice a' n c') ∧ OwnQ w' w.heap.size (.slice a' n c') l ∧ Below w.heap.size w w' := by
  obtain ⟨i0, hi, hz0, hz1, hz2⟩ := info_parts Try.infoPipe
  have H := hid h
  clear h
  have HI := hid hi
  have HZ := hid hz0
  have HZ1 := hid hz1
  have HZ2 := hid hz2
  clear hi hz0 hz1 hz2
  go_enter Try.func52, Try.ntmps52
  go_wp2_with (at_make; refine wpList_make_full _ rfl _ _ 29 rfl w.heap.size 65 i0 (.agg #[.int .i64 0, .int .i64 0, .int .i64 0, .int .i64 0]) 4 Try.underlying29 HI.out HZ.out HZ1.out _ _ _ _ n rfl rfl rfl rfl ?b2 ?b3 ?b4 ?_)
  case b2 => rw [HZ2.out]; omega
  case b3 => unfold maxLen; omega
  case b4 => exact Nat.le_refl _
  intro w1 hown hgrow
  have ho : OwnQ w1 w.heap.size _ (List.replicate n ((0, 0, 0, 0) : Pip)) := OwnS.of_row qf_len (by decide) (n := n) (by rw [← madeFlat qf 4 qf_len (by decide) ((0, 0, 0, 0) : Pip) _ rfl n]; exact hown)
  have HO := hid ho
  have HB := hid (below_of_grown hgrow (Nat.le_refl _) (fun k hk => by simp at hk))
  clear hown ho hgrow
  go_wp2
  go_loopw [4] (fun i wr => ∃ (k : Nat) (l' : List Pip), k ≤ n ∧ i = .int .i64 k ∧ Hid (OwnQ wr w.heap.size (.slice (some ⟨w.heap.size, 0, none⟩) n n) l' ∧ l'.take k = l.take k ∧ Below w.heap.size w wr)) (fun i _ => n - (intOf i).toNat)
  case atStart => exact ⟨0, List.replicate n (0, 0, 0, 0), Nat.zero_le _, rfl, HO.out, by simp, HB.out⟩
  case round =>
    obtain ⟨k, l', hk, rfl, hh⟩ := hrel
    clear HO HB
    by_cases hlt : k < n
    · obtain ⟨b, off, rfl, hbw, x0, x1, x2, x3⟩ := QAt.get (H.out.below hh.out.2.2) k hlt
      obtain ⟨y0, y1, y2, y3⟩ := hh.out.1.cells (k := k) hlt
      obtain ⟨f0, f1, f2, f3⟩ := hh.out.1.frozen (k := k)
      go_wp2_with fail
      refine (l_toPipe _ _ _ _ _).mono ?_
      rintro e w2 ⟨rfl, hb⟩
      obtain ⟨hc, hf⟩ := bcell hb
      have hw1 : w.heap.size < wr.heap.size := (hh.out.1.lt _ rfl).2
      go_wp2
      go_roundw
      case rel =>
        obtain ⟨o1, g1⟩ := OwnS.setAll qf_len (by decide) (hh.out.1.below hb) hlt (l[k]?.getD default)
        exact ⟨k + 1, l'.set k (l[k]?.getD default), by omega, by go_num, o1, take_setS H.out.1 hh.out.1.len hlt hh.out.2.1, (bstep hh.out.2.2 hb).grown g1 (by have := hb.size; omega) (fun q hq => by simp at hq; omega)⟩
      case measure => simp [intOf]; omega
    · go_wp2
      go_ret
      have hl := hh.out.1.len
      have hl2 := H.out.1
      have e := hh.out.2.1
      rw [List.take_of_length_le (by omega), List.take_of_length_le (by omega)] at e
      subst e
      exact ⟨_, _, rfl, hh.out.1, hh.out.2.2⟩

theorem l_szPipeS_yes (a : Option Addr) (n c : Nat) (w : World) (hn : n ≤ 1048576) : Calls Try.prog 48 #[.slice a n c, .int .i64 1048576] w fun e w' => e = .returned (.int .i64 (1048576 - (n : Int))) ∧ w = w' := by
  go_enter Try.func48, Try.ntmps48
  go_wp2
  go_ret
  exact ⟨rfl, rfl⟩
theorem l_szPipeS_no (a : Option Addr) (n c : Nat) (w : World) (hn : 1048576 < n) (hn2 : n ≤ 9223372036854775807) : Calls Try.prog 48 #[.slice a n c, .int .i64 1048576] w fun e w' => e = .returned (.int .i64 (-1)) ∧ w = w' := by
  go_enter Try.func48, Try.ntmps48
  go_wp2
  go_ret
  exact ⟨rfl, rfl⟩

set_option maxHeartbeats 2000000 in
theorem l_eqPipeS (a b : Option Addr) (n c d : Nat) (l : List Pip) (w : World) (h : QAt w a n l) (h' : QAt w b n l) (hn : n ≤ 1048576) :
    Calls Try.prog 56 #[.slice a n c, .slice b n d] w fun e w' => e = .returned (.bool true) ∧ Below w.heap.size w w' := by
  have H := hid h
  have H' := hid h'
  clear h h'
  go_enter Try.func56, Try.ntmps56
  go_wp2
  go_loopg [5] n (fun g i wr => ∃ k : Nat, k ≤ n ∧ g = n - k ∧ i = .int .i64 k ∧ Hid (Below w.heap.size w wr))
  case atStart => exact ⟨0, Nat.zero_le _, rfl, rfl, Below.refl _ _⟩
  case round =>
    obtain ⟨k, hk, rfl, rfl, hh⟩ := hrel
    by_cases hlt : k < n
    · obtain ⟨b1, off1, rfl, hb1, x0, x1, x2, x3⟩ := QAt.get (H.out.below hh.out) k hlt
      obtain ⟨b2, off2, rfl, hb2, y0, y1, y2, y3⟩ := QAt.get (H'.out.below hh.out) k hlt
      go_upto_region 6 with fail
      have q0 : ∀ wy w5 : World, Below wy.heap.size wy w5 → (wy.cell? ⟨b1, off1 + k * 4, none⟩ = some (.int .i64 (pp l k).1) ∧ wy.cell? ⟨b1, off1 + k * 4 + 1, none⟩ = some (.int .i64 (pp l k).2.1) ∧ wy.cell? ⟨b1, off1 + k * 4 + 2, none⟩ = some (.int .i64 (pp l k).2.2.1) ∧ wy.cell? ⟨b1, off1 + k * 4 + 3, none⟩ = some (.int .i64 (pp l k).2.2.2) ∧ wy.cell? ⟨b2, off2 + k * 4, none⟩ = some (.int .i64 (pp l k).1) ∧ wy.cell? ⟨b2, off2 + k * 4 + 1, none⟩ = some (.int .i64 (pp l k).2.1) ∧ wy.cell? ⟨b2, off2 + k * 4 + 2, none⟩ = some (.int .i64 (pp l k).2.2.1) ∧ wy.cell? ⟨b2, off2 + k * 4 + 3, none⟩ = some (.int .i64 (pp l k).2.2.2)) → (w5.cell? ⟨b1, off1 + k * 4, none⟩ = some (.int .i64 (pp l k).1) ∧ w5.cell? ⟨b1, off1 + k * 4 + 1, none⟩ = some (.int .i64 (pp l k).2.1) ∧ w5.cell? ⟨b1, off1 + k * 4 + 2, none⟩ = some (.int .i64 (pp l k).2.2.1) ∧ w5.cell? ⟨b1, off1 + k * 4 + 3, none⟩ = some (.int .i64 (pp l k).2.2.2) ∧ w5.cell? ⟨b2, off2 + k * 4, none⟩ = some (.int .i64 (pp l k).1) ∧ w5.cell? ⟨b2, off2 + k * 4 + 1, none⟩ = some (.int .i64 (pp l k).2.1) ∧ w5.cell? ⟨b2, off2 + k * 4 + 2, none⟩ = some (.int .i64 (pp l k).2.2.1) ∧ w5.cell? ⟨b2, off2 + k * 4 + 3, none⟩ = some (.int .i64 (pp l k).2.2.2)) :=
        fun wy w5 hb ⟨z0, z1, z2, z3, z4, z5, z6, z7⟩ => ⟨(hb.cell (World.block_lt_of_cell? wy _ z0)).trans z0, (hb.cell (World.block_lt_of_cell? wy _ z1)).trans z1, (hb.cell (World.block_lt_of_cell? wy _ z2)).trans z2, (hb.cell (World.block_lt_of_cell? wy _ z3)).trans z3, (hb.cell (World.block_lt_of_cell? wy _ z4)).trans z4, (hb.cell (World.block_lt_of_cell? wy _ z5)).trans z5, (hb.cell (World.block_lt_of_cell? wy _ z6)).trans z6, (hb.cell (World.block_lt_of_cell? wy _ z7)).trans z7⟩
      have Q0 := hid q0
      clear q0
      go_cut [26] (fun s26 wx => s26 = .bool false ∧ Hid (Below wr.heap.size wr wx))
      case first =>
        go_region_held3 (fun w' => (w'.cell? ⟨b1, off1 + k * 4, none⟩ = some (.int .i64 (pp l k).1) ∧ w'.cell? ⟨b1, off1 + k * 4 + 1, none⟩ = some (.int .i64 (pp l k).2.1) ∧ w'.cell? ⟨b1, off1 + k * 4 + 2, none⟩ = some (.int .i64 (pp l k).2.2.1) ∧ w'.cell? ⟨b1, off1 + k * 4 + 3, none⟩ = some (.int .i64 (pp l k).2.2.2) ∧ w'.cell? ⟨b2, off2 + k * 4, none⟩ = some (.int .i64 (pp l k).1) ∧ w'.cell? ⟨b2, off2 + k * 4 + 1, none⟩ = some (.int .i64 (pp l k).2.1) ∧ w'.cell? ⟨b2, off2 + k * 4 + 2, none⟩ = some (.int .i64 (pp l k).2.2.1) ∧ w'.cell? ⟨b2, off2 + k * 4 + 3, none⟩ = some (.int .i64 (pp l k).2.2.2))) (first | go_keep | exact Q0.out _ _ (by assumption) (by first | assumption | (refine ⟨?_, ?_, ?_, ?_, ?_, ?_, ?_, ?_⟩ <;> assumption) | simp [*]))
          (first | (go_at_call 99; refine (l_eqPipe _ _ _ _ _).mono ?_; rintro e w5 ⟨rfl, hb5⟩; obtain ⟨hc5, hf5⟩ := bcell hb5))
        all_goals (go_wp2_with fail; go_meet)
        all_goals refine ⟨rfl, ?_⟩
        all_goals exact bstep ((Below.refl _ _).drew : Below wr.heap.size wr _) (by assumption)
      case rest =>
        obtain ⟨rfl, hx⟩ := hcut
        clear Q0
        go_wp2
        go_roundg (n - (k + 1))
        case measure => omega
        case rel => exact ⟨k + 1, by omega, rfl, by go_num, bstep hh.out hx.out⟩
    · obtain rfl : k = n := by omega
      go_wp2
      go_ret
      exact ⟨rfl, hh.out⟩

end Go.Proofs.Ytheaagbffphdmaa
