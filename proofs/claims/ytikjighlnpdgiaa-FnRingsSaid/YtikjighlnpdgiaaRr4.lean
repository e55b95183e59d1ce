/-
  Texts of this claim, joined: CurN, PipeC, NetC, ReachA, ReachB, Without.
-/
import Derived.Deep.RegionLaw
import Derived.Test.YtikjighlnpdgiaaRr1
import Derived.Test.YtikjighlnpdgiaaRr2
import Derived.Test.YtikjighlnpdgiaaRr3
/-
  The draws of networks: nodes, demands.
-/
set_option linter.unusedVariables false
set_option linter.unusedSimpArgs false
namespace Go.Proofs.Ytikjighlnpdgiaa
open Go.RowKit

set_option maxRecDepth 100000 in
set_option maxHeartbeats 4000000 in
theorem c_nodeOf (g K : Nat) (N : Int) (a : Option Addr) (n c : Nat) (w : World) (h : Cur w g K) (hK : K ≤ 100000000000) (hN : -1000 ≤ N ∧ N ≤ 1000) :
    Calls Try.prog 55 #[.pointer (some ⟨g, 0, none⟩), .agg #[.int .i64 N, .slice a n c]] w fun e w' => (∃ v : Int, e = .returned (.int .i64 v)) ∧ Cur w' g (K + 4) ∧ w.grownBy w' (some g) := by
  have H := hid h
  have hgz := h.lt
  clear h
  have B0 := hid (by go_grown : Below w.heap.size w (w.alloc (.cells #[.int .i64 N, .slice a n c] 31)))
  have T0 := hid (heap_alloc_new w (.cells #[.int .i64 N, .slice a n c] 31))
  have hz0 : (w.alloc (.cells #[.int .i64 N, .slice a n c] 31)).heap.size = w.heap.size + 1 := by simp
  by_cases h1 : N < 1
  · go_enter Try.func55, Try.ntmps55
    go_upto_region 1 with fail
    generalize w.alloc (.cells #[.int .i64 N, .slice a n c] 31) = w0 at *
    obtain ⟨m0, m1⟩ := two_of T0.out
    have hz : w.heap.size < w0.heap.size := by omega
    clear hz0
    go_wp2_with fail
    refine (c_among g K w0.heap.size 4 4 [0, 9, 1, -1] _ ((H.out.below B0.out).below (by go_grown)) (by omega) (IntsAt.lit' _ 3 [0, 9, 1, -1] rfl rfl) (by omega) (by omega) (by omega)).mono ?_
    rintro e w5 ⟨⟨v, rfl, hv⟩, hc5, hg5⟩
    have W5 := hid (show Cur w5 g (K + 2) ∧ w.grownBy w5 (some g) from ⟨hc5, grownBy_trans (grown_of_below (bstep B0.out (by go_grown)) _) hg5⟩)
    clear hc5 hg5 hv
    go_wp2
    go_ret
    exact ⟨⟨_, rfl⟩, W5.out.1.le (by omega), W5.out.2⟩
  · have hd : decide (N < 1) = false := by simpa using h1
    go_enter Try.func55, Try.ntmps55
    go_upto_region 1 with fail
    generalize w.alloc (.cells #[.int .i64 N, .slice a n c] 31) = w0 at *
    obtain ⟨m0, m1⟩ := two_of T0.out
    have hz : w.heap.size < w0.heap.size := by omega
    clear hz0
    go_wp2_with fail
    refine (c_one g K 12 _ (H.out.below B0.out) (by omega) (by omega)).mono ?_
    rintro e w5 ⟨⟨b, rfl⟩, hc5, hg5⟩
    have W5 := hid (show Cur w5 g (K + 2) ∧ w.grownBy w5 (some g) ∧ w5.heap[w.heap.size]? = some (.cells #[.int .i64 N, .slice a n c] 31 (0, 0)) from ⟨hc5, grownBy_trans (grown_of_below B0.out _) hg5, (hg5.block _ hz (by simp <;> omega)).trans T0.out⟩)
    have hz5 := hg5.size
    clear hc5 hg5 m0 m1
    obtain ⟨m0, m1⟩ := two_of W5.out.2.2
    cases b
    · go_wp2_with fail
      refine (c_pick g (K + 2) N _ W5.out.1 (by omega) (by omega)).mono ?_
      rintro e w6 ⟨⟨v, rfl, v0, v1⟩, hc6, hg6⟩
      have W6 := hid (show Cur w6 g (K + 4) ∧ w.grownBy w6 (some g) from ⟨hc6, grownBy_trans W5.out.2.1 hg6⟩)
      clear hc6 hg6
      go_wp2
      go_ret
      exact ⟨⟨_, rfl⟩, W6.out.1, W6.out.2⟩
    · go_wp2_with fail
      refine (c_among g (K + 2) w5.heap.size 4 4 [0, 9, 1, -1] _ (W5.out.1.below (by go_grown)) (by omega) (IntsAt.lit' _ 3 [0, 9, 1, -1] rfl rfl) (by have := W5.out.1.lt; omega) (by omega) (by omega)).mono ?_
      rintro e w6 ⟨⟨v, rfl, hv⟩, hc6, hg6⟩
      have W6 := hid (show Cur w6 g (K + 4) ∧ w.grownBy w6 (some g) from ⟨hc6, grownBy_trans (grownBy_trans W5.out.2.1 (grown_of_below (by go_grown) _)) hg6⟩)
      clear hc6 hg6 hv
      go_wp2
      go_ret
      exact ⟨⟨_, rfl⟩, W6.out.1, W6.out.2⟩


end Go.Proofs.Ytikjighlnpdgiaa

/-
  What the laws do with Pipes: they build them anew and compare them.
-/
set_option linter.unusedVariables false
set_option linter.unusedSimpArgs false
namespace Go.Proofs.Ytikjighlnpdgiaa
open Go.RowKit

theorem l_toPipe (x0 x1 x2 x3 : Int) (w : World) : Calls Try.prog 81 #[.agg #[.int .i64 x0, .int .i64 x1, .int .i64 x2, .int .i64 x3]] w fun e w' => e = .returned (.agg #[.int .i64 x0, .int .i64 x1, .int .i64 x2, .int .i64 x3]) ∧ Below w.heap.size w w' := by
  go_enter Try.func81, Try.ntmps81
  go_wp2
  go_returns
  exact ⟨rfl, by go_grown⟩

theorem l_eqPipe (x0 x1 x2 x3 : Int) (w : World) : Calls Try.prog 87 #[.agg #[.int .i64 x0, .int .i64 x1, .int .i64 x2, .int .i64 x3], .agg #[.int .i64 x0, .int .i64 x1, .int .i64 x2, .int .i64 x3]] w fun e w' => e = .returned (.bool true) ∧ Below w.heap.size w w' := by
  go_enter Try.func87, Try.ntmps87
  go_wp2
  go_ret
  exact ⟨rfl, by go_grown⟩

theorem Try.infoPipe : (Try.prog.info? 71).map (fun i => (i.zero, i.size, i.bytes)) = some (some (.agg #[.int .i64 0, .int .i64 0, .int .i64 0, .int .i64 0]), 4, 32) := by kernel_rfl

theorem OwnQ.len {w : World} {B : Nat} {a : Option Addr} {n c : Nat} {l : List Pip} (h : OwnQ w B (.slice a n c) l) : l.length = n := OwnS.len h
theorem OwnQ.cells {w : World} {B g k n c : Nat} {l : List Pip} (h : OwnQ w B (.slice (some ⟨g, 0, none⟩) n c) l) (hk : k < n) :
    w.cell? ⟨g, k * 4, none⟩ = some (.int .i64 ((l[k]?.getD default).1)) ∧ w.cell? ⟨g, k * 4 + 1, none⟩ = some (.int .i64 ((l[k]?.getD default).2.1)) ∧ w.cell? ⟨g, k * 4 + 2, none⟩ = some (.int .i64 ((l[k]?.getD default).2.2.1)) ∧ w.cell? ⟨g, k * 4 + 3, none⟩ = some (.int .i64 ((l[k]?.getD default).2.2.2)) := by
  obtain ⟨b, off, h1, h2, h3⟩ := (OwnS.at qf_len h).2 k hk
  simp only [Option.some.injEq, Addr.mk.injEq] at h1
  obtain ⟨rfl, rfl, -⟩ := h1
  simp only [Nat.zero_add] at h3
  exact ⟨h3 0 (by decide), h3 1 (by decide), h3 2 (by decide), h3 3 (by decide)⟩
theorem OwnQ.frozen {w : World} {B g k n c : Nat} {l : List Pip} (h : OwnQ w B (.slice (some ⟨g, 0, none⟩) n c) l) :
    w.frozen? ⟨g, k * 4, none⟩ = false ∧ w.frozen? ⟨g, k * 4 + 1, none⟩ = false ∧ w.frozen? ⟨g, k * 4 + 2, none⟩ = false ∧ w.frozen? ⟨g, k * 4 + 3, none⟩ = false := ⟨OwnS.frozen h, OwnS.frozen h, OwnS.frozen h, OwnS.frozen h⟩

theorem l_toPipeS (a : Option Addr) (n c : Nat) (l : List Pip) (w : World) (h : QAt w a n l) (hn : n ≤ 1048576) :
    Calls Try.prog 39 #[.slice a n c] w fun e w' => ∃ a' c', e = .returned (.slice a' n c') ∧ OwnQ w' w.heap.size (.slice a' n c') l ∧ Below w.heap.size w w' := by
  obtain ⟨i0, hi, hz0, hz1, hz2⟩ := info_parts Try.infoPipe
  have H := hid h
  clear h
  have HI := hid hi
  have HZ := hid hz0
  have HZ1 := hid hz1
  have HZ2 := hid hz2
  clear hi hz0 hz1 hz2
  go_enter Try.func39, Try.ntmps39
  go_wp2_with (at_make; refine wpList_make_full _ rfl _ _ 29 rfl w.heap.size 71 i0 (.agg #[.int .i64 0, .int .i64 0, .int .i64 0, .int .i64 0]) 4 Try.underlying29 HI.out HZ.out HZ1.out _ _ _ _ n rfl rfl rfl rfl ?b2 ?b3 ?b4 ?_)
  case b2 => rw [HZ2.out]; omega
  case b3 => unfold maxLen; omega
  case b4 => exact Nat.le_refl _
  intro w1 hown hgrow
  have ho : OwnQ w1 w.heap.size _ (List.replicate n ((0, 0, 0, 0) : Pip)) := OwnS.of_row qf_len (by decide) (n := n) (by rw [← madeFlat qf 4 qf_len (by decide) ((0, 0, 0, 0) : Pip) _ rfl n]; exact hown)
  have HO := hid ho
  have HB := hid (below_of_grown hgrow (Nat.le_refl _) (fun k hk => by simp at hk))
  clear hown ho hgrow
  go_wp2
  go_loopw [4] (fun i wr => ∃ (k : Nat) (l' : List Pip), k ≤ n ∧ i = .int .i64 k ∧ Hid (OwnQ wr w.heap.size (.slice (some ⟨w.heap.size, 0, none⟩) n n) l' ∧ l'.take k = l.take k ∧ Below w.heap.size w wr)) (fun i _ => n - (intOf i).toNat)
  case atStart => exact ⟨0, List.replicate n (0, 0, 0, 0), Nat.zero_le _, rfl, HO.out, by simp, HB.out⟩
  case round =>
    obtain ⟨k, l', hk, rfl, hh⟩ := hrel
    clear HO HB
    by_cases hlt : k < n
    · obtain ⟨b, off, rfl, hbw, x0, x1, x2, x3⟩ := QAt.get (H.out.below hh.out.2.2) k hlt
      obtain ⟨y0, y1, y2, y3⟩ := hh.out.1.cells (k := k) hlt
      obtain ⟨f0, f1, f2, f3⟩ := hh.out.1.frozen (k := k)
      go_wp2_with fail
      refine (l_toPipe _ _ _ _ _).mono ?_
      rintro e w2 ⟨rfl, hb⟩
      obtain ⟨hc, hf⟩ := bcell hb
      have hw1 : w.heap.size < wr.heap.size := (hh.out.1.lt _ rfl).2
      go_wp2
      go_roundw
      case rel =>
        obtain ⟨o1, g1⟩ := OwnS.setAll qf_len (by decide) (hh.out.1.below hb) hlt (l[k]?.getD default)
        exact ⟨k + 1, l'.set k (l[k]?.getD default), by omega, by go_num, o1, take_setS H.out.1 hh.out.1.len hlt hh.out.2.1, (bstep hh.out.2.2 hb).grown g1 (by have := hb.size; omega) (fun q hq => by simp at hq; omega)⟩
      case measure => simp [intOf]; omega
    · go_wp2
      go_ret
      have hl := hh.out.1.len
      have hl2 := H.out.1
      have e := hh.out.2.1
      rw [List.take_of_length_le (by omega), List.take_of_length_le (by omega)] at e
      subst e
      exact ⟨_, _, rfl, hh.out.1, hh.out.2.2⟩

theorem l_szPipeS_yes (a : Option Addr) (n c : Nat) (w : World) (hn : n ≤ 1048576) : Calls Try.prog 29 #[.slice a n c, .int .i64 1048576] w fun e w' => e = .returned (.int .i64 (1048576 - (n : Int))) ∧ w = w' := by
  go_enter Try.func29, Try.ntmps29
  go_wp2
  go_ret
  exact ⟨rfl, rfl⟩
theorem l_szPipeS_no (a : Option Addr) (n c : Nat) (w : World) (hn : 1048576 < n) (hn2 : n ≤ 9223372036854775807) : Calls Try.prog 29 #[.slice a n c, .int .i64 1048576] w fun e w' => e = .returned (.int .i64 (-1)) ∧ w = w' := by
  go_enter Try.func29, Try.ntmps29
  go_wp2
  go_ret
  exact ⟨rfl, rfl⟩

set_option maxHeartbeats 2000000 in
theorem l_eqPipeS (a b : Option Addr) (n c d : Nat) (l : List Pip) (w : World) (h : QAt w a n l) (h' : QAt w b n l) (hn : n ≤ 1048576) :
    Calls Try.prog 52 #[.slice a n c, .slice b n d] w fun e w' => e = .returned (.bool true) ∧ Below w.heap.size w w' := by
  have H := hid h
  have H' := hid h'
  clear h h'
  go_enter Try.func52, Try.ntmps52
  go_wp2
  go_loopg [5] n (fun g i wr => ∃ k : Nat, k ≤ n ∧ g = n - k ∧ i = .int .i64 k ∧ Hid (Below w.heap.size w wr))
  case atStart => exact ⟨0, Nat.zero_le _, rfl, rfl, Below.refl _ _⟩
  case round =>
    obtain ⟨k, hk, rfl, rfl, hh⟩ := hrel
    by_cases hlt : k < n
    · obtain ⟨b1, off1, rfl, hb1, x0, x1, x2, x3⟩ := QAt.get (H.out.below hh.out) k hlt
      obtain ⟨b2, off2, rfl, hb2, y0, y1, y2, y3⟩ := QAt.get (H'.out.below hh.out) k hlt
      go_upto_region 6 with fail
      have q0 : ∀ wy w5 : World, Below wy.heap.size wy w5 → (wy.cell? ⟨b1, off1 + k * 4, none⟩ = some (.int .i64 (pp l k).1) ∧ wy.cell? ⟨b1, off1 + k * 4 + 1, none⟩ = some (.int .i64 (pp l k).2.1) ∧ wy.cell? ⟨b1, off1 + k * 4 + 2, none⟩ = some (.int .i64 (pp l k).2.2.1) ∧ wy.cell? ⟨b1, off1 + k * 4 + 3, none⟩ = some (.int .i64 (pp l k).2.2.2) ∧ wy.cell? ⟨b2, off2 + k * 4, none⟩ = some (.int .i64 (pp l k).1) ∧ wy.cell? ⟨b2, off2 + k * 4 + 1, none⟩ = some (.int .i64 (pp l k).2.1) ∧ wy.cell? ⟨b2, off2 + k * 4 + 2, none⟩ = some (.int .i64 (pp l k).2.2.1) ∧ wy.cell? ⟨b2, off2 + k * 4 + 3, none⟩ = some (.int .i64 (pp l k).2.2.2)) → (w5.cell? ⟨b1, off1 + k * 4, none⟩ = some (.int .i64 (pp l k).1) ∧ w5.cell? ⟨b1, off1 + k * 4 + 1, none⟩ = some (.int .i64 (pp l k).2.1) ∧ w5.cell? ⟨b1, off1 + k * 4 + 2, none⟩ = some (.int .i64 (pp l k).2.2.1) ∧ w5.cell? ⟨b1, off1 + k * 4 + 3, none⟩ = some (.int .i64 (pp l k).2.2.2) ∧ w5.cell? ⟨b2, off2 + k * 4, none⟩ = some (.int .i64 (pp l k).1) ∧ w5.cell? ⟨b2, off2 + k * 4 + 1, none⟩ = some (.int .i64 (pp l k).2.1) ∧ w5.cell? ⟨b2, off2 + k * 4 + 2, none⟩ = some (.int .i64 (pp l k).2.2.1) ∧ w5.cell? ⟨b2, off2 + k * 4 + 3, none⟩ = some (.int .i64 (pp l k).2.2.2)) :=
        fun wy w5 hb ⟨z0, z1, z2, z3, z4, z5, z6, z7⟩ => ⟨(hb.cell (World.block_lt_of_cell? wy _ z0)).trans z0, (hb.cell (World.block_lt_of_cell? wy _ z1)).trans z1, (hb.cell (World.block_lt_of_cell? wy _ z2)).trans z2, (hb.cell (World.block_lt_of_cell? wy _ z3)).trans z3, (hb.cell (World.block_lt_of_cell? wy _ z4)).trans z4, (hb.cell (World.block_lt_of_cell? wy _ z5)).trans z5, (hb.cell (World.block_lt_of_cell? wy _ z6)).trans z6, (hb.cell (World.block_lt_of_cell? wy _ z7)).trans z7⟩
      have Q0 := hid q0
      clear q0
      go_cut [26] (fun s26 wx => s26 = .bool false ∧ Hid (Below wr.heap.size wr wx))
      case first =>
        go_region_held3 (fun w' => (w'.cell? ⟨b1, off1 + k * 4, none⟩ = some (.int .i64 (pp l k).1) ∧ w'.cell? ⟨b1, off1 + k * 4 + 1, none⟩ = some (.int .i64 (pp l k).2.1) ∧ w'.cell? ⟨b1, off1 + k * 4 + 2, none⟩ = some (.int .i64 (pp l k).2.2.1) ∧ w'.cell? ⟨b1, off1 + k * 4 + 3, none⟩ = some (.int .i64 (pp l k).2.2.2) ∧ w'.cell? ⟨b2, off2 + k * 4, none⟩ = some (.int .i64 (pp l k).1) ∧ w'.cell? ⟨b2, off2 + k * 4 + 1, none⟩ = some (.int .i64 (pp l k).2.1) ∧ w'.cell? ⟨b2, off2 + k * 4 + 2, none⟩ = some (.int .i64 (pp l k).2.2.1) ∧ w'.cell? ⟨b2, off2 + k * 4 + 3, none⟩ = some (.int .i64 (pp l k).2.2.2))) (first | go_keep | exact Q0.out _ _ (by assumption) (by first | assumption | (refine ⟨?_, ?_, ?_, ?_, ?_, ?_, ?_, ?_⟩ <;> assumption) | simp [*]))
          (first | (go_at_call 87; refine (l_eqPipe _ _ _ _ _).mono ?_; rintro e w5 ⟨rfl, hb5⟩; obtain ⟨hc5, hf5⟩ := bcell hb5))
        all_goals (go_wp2_with fail; go_meet)
        all_goals refine ⟨rfl, ?_⟩
        all_goals exact bstep ((Below.refl _ _).drew : Below wr.heap.size wr _) (by assumption)
      case rest =>
        obtain ⟨rfl, hx⟩ := hcut
        clear Q0
        go_wp2
        go_roundg (n - (k + 1))
        case measure => omega
        case rel => exact ⟨k + 1, by omega, rfl, by go_num, bstep hh.out hx.out⟩
    · obtain rfl : k = n := by omega
      go_wp2
      go_ret
      exact ⟨rfl, hh.out⟩

end Go.Proofs.Ytikjighlnpdgiaa

/-
  What the laws do with networks.
-/
set_option linter.unusedVariables false
set_option linter.unusedSimpArgs false
namespace Go.Proofs.Ytikjighlnpdgiaa
open Go.RowKit

theorem OwnS.far {α : Type} [Inhabited α] {f : α → List Value} {s : Nat} {t : TypeId} {w : World} {B b o : Nat} {v u : Value} {l : List α} (h : OwnS f s t w B v l) (hb : b < B) : OwnS f s t (w.setCell ⟨b, o, none⟩ u) B v l :=
  h.kept (grown_setCell w b o u) (by
    cases hv : v.ownBlock with
    | none => exact .inl rfl
    | some k =>
      refine .inr fun e => ?_
      have := (h.lt k hv).1
      cases e
      omega)
theorem last_new (W : World) (x : Obj) (g : Nat) (hg : g = W.heap.size) : (W.alloc x).heap[g]? = some x := by
  subst hg
  exact heap_alloc_new _ _

theorem l_szNetwork_yes (N : Int) (a : Option Addr) (n c : Nat) (w : World) (hn : n ≤ 1048576) : Calls Try.prog 5 #[.agg #[.int .i64 N, .slice a n c], .int .i64 1048576] w fun e w' => e = .returned (.int .i64 (1048576 - (n : Int))) ∧ Below w.heap.size w w' := by
  go_enter Try.func5, Try.ntmps5
  go_wp2_with fail
  refine (l_szPipeS_yes _ _ _ _ hn).mono ?_
  rintro e _ ⟨rfl, rfl⟩
  go_wp2
  go_ret
  exact ⟨rfl, by go_grown⟩
theorem l_szNetwork_no (N : Int) (a : Option Addr) (n c : Nat) (w : World) (hn : 1048576 < n) (hn2 : n ≤ 9223372036854775807) : Calls Try.prog 5 #[.agg #[.int .i64 N, .slice a n c], .int .i64 1048576] w fun e w' => e = .returned (.int .i64 (-1)) ∧ Below w.heap.size w w' := by
  go_enter Try.func5, Try.ntmps5
  go_wp2_with fail
  refine (l_szPipeS_no _ _ _ _ hn hn2).mono ?_
  rintro e _ ⟨rfl, rfl⟩
  go_wp2
  go_ret
  exact ⟨rfl, by go_grown⟩

theorem l_toNetwork (N : Int) (a : Option Addr) (n c : Nat) (l : List Pip) (w : World) (h : QAt w a n l) (hn : n ≤ 1048576) :
    Calls Try.prog 7 #[.agg #[.int .i64 N, .slice a n c]] w fun e w' => ∃ a' c', e = .returned (.agg #[.int .i64 N, .slice a' n c']) ∧ OwnQ w' w.heap.size (.slice a' n c') l ∧ Below w.heap.size w w' := by
  have H := hid h
  clear h
  go_enter Try.func7, Try.ntmps7
  go_wp2_with fail
  refine (l_toPipeS _ _ _ l _ (H.out.below (by go_grown)) (by omega)).mono ?_
  rintro e w1 ⟨a1, c1, rfl, ho, hb⟩
  obtain ⟨hc_w1, hf_w1⟩ := bcell hb
  have hz := hb.size
  simp only [World.size_alloc] at hz
  have hz0 : w.heap.size < w1.heap.size := by omega
  have hz1 : w.heap.size + 1 < w1.heap.size := by omega
  have hz2 : w.heap.size + 1 + 1 < w1.heap.size := by omega
  have HO := hid ho
  have HB := hid (bstep (by go_grown) hb : Below w.heap.size w w1)
  clear ho
  have T1 : w1.heap[w.heap.size + 1]? = some (.cells #[.int .i64 0, .slice none 0 0] 31 (0, 0)) := (hb.block _ (by simp)).trans (mid_new _ _ _ _ (by simp))
  have T2 : w1.heap[w.heap.size + 1 + 1]? = some (.cells #[.int .i64 N, .slice none 0 0] 31 (0, 0)) := (hb.block _ (by simp)).trans (last_new _ _ _ (by simp))
  have n0 : w1.cell? ⟨w.heap.size + 1 + 1, 0, none⟩ = some (.int .i64 N) := by rw [cell_of_row w1 _ _ _ _ (0, 0) T2]; rfl
  clear hb
  go_wp2
  have e7 := heap_setCell_same _ _ 1 _ _ (.slice a1 n c1) (heap_setCell_same _ _ 0 _ _ (.int .i64 N) (other_cell (b := w.heap.size + 1 + 1) (o := 1) (u := .slice a1 n c1) T1 (by omega)))
  have u0 := cell_of_row _ _ 0 _ _ (0, 0) e7
  have u1 := cell_of_row _ _ 1 _ _ (0, 0) e7
  simp only [List.setIfInBounds_toArray, List.set_cons_zero, List.set_cons_succ, List.getElem?_toArray, List.getElem?_cons_zero, List.getElem?_cons_succ] at u0 u1
  refine bodyPost_ret (v := .agg #[.int .i64 N, .slice a1 n c1]) (by simp [results, Try.results7, go_sem, *]) rfl ⟨_, _, rfl, ?_, ?_⟩
  · exact (((HO.out.far (by simp)).far (by simp)).far (by simp)).mono (by simp <;> omega)
  · exact ((HB.out.setCell (by simp <;> omega) _).setCell (by simp <;> omega) _).setCell (by simp <;> omega) _

theorem l_eqNetwork (N : Int) (a b : Option Addr) (n c d : Nat) (l : List Pip) (w : World) (h : QAt w a n l) (h' : QAt w b n l) (hn : n ≤ 1048576) :
    Calls Try.prog 11 #[.agg #[.int .i64 N, .slice a n c], .agg #[.int .i64 N, .slice b n d]] w fun e w' => e = .returned (.bool true) ∧ Below w.heap.size w w' := by
  have H := hid h
  have H' := hid h'
  clear h h'
  have hx : (N != N) = false := by simp
  go_enter Try.func11, Try.ntmps11
  go_wp2_with fail
  refine (l_eqPipeS _ _ _ _ _ l _ (H.out.below (by go_grown)) (H'.out.below (by go_grown)) (by omega)).mono ?_
  rintro e w1 ⟨rfl, hb⟩
  go_wp2
  go_ret
  exact ⟨rfl, bstep (by go_grown) hb⟩

end Go.Proofs.Ytikjighlnpdgiaa

/-
  Networks: which nodes are reached, in plain lists: ascending lists, joined nodes, the number of parts, a pipe left out.
-/
set_option linter.unusedVariables false
set_option linter.unusedSimpArgs false
namespace Go.Proofs.Ytikjighlnpdgiaa
open Go.RowKit

/-- Put a number into an ascending list. -/
def ins (x : Int) : List Int → List Int
  | [] => [x]
  | y :: r => if y < x then y :: ins x r else x :: y :: r
def Asc (l : List Int) : Prop := l.Pairwise (· < ·)
theorem mem_ins {x y : Int} {l : List Int} : y ∈ ins x l ↔ y = x ∨ y ∈ l := by
  induction l with
  | nil => simp [ins]
  | cons z r ih =>
    unfold ins
    split
    · simp only [List.mem_cons, ih]
      constructor
      · rintro (h | h | h) <;> simp [h]
      · rintro (h | h | h) <;> simp [h]
    · simp only [List.mem_cons]
theorem ins_len (x : Int) (l : List Int) : (ins x l).length = l.length + 1 := by
  induction l with
  | nil => rfl
  | cons z r ih => unfold ins; split <;> simp [ih]
theorem asc_ins {x : Int} {l : List Int} (h : Asc l) (hx : x ∉ l) : Asc (ins x l) := by
  induction l with
  | nil => simp [ins, Asc]
  | cons z r ih =>
    unfold Asc at h ih ⊢
    rw [List.pairwise_cons] at h
    rw [List.mem_cons, not_or] at hx
    unfold ins
    split
    · rename_i hz
      rw [List.pairwise_cons]
      refine ⟨fun y hy => ?_, ih h.2 hx.2⟩
      rw [mem_ins] at hy
      rcases hy with rfl | hy
      · exact hz
      · exact h.1 y hy
    · rename_i hz
      rw [List.pairwise_cons, List.pairwise_cons]
      refine ⟨fun y hy => ?_, h⟩
      rw [List.mem_cons] at hy
      rcases hy with rfl | hy
      · omega
      · have := h.1 y hy
        omega
theorem ins_cut {x : Int} : ∀ (l : List Int) (k : Nat), k ≤ l.length → (∀ j, j < k → l[j]?.getD 0 < x) → (k < l.length → ¬ l[k]?.getD 0 < x) → ins x l = l.take k ++ x :: l.drop k
  | [], k, hk, _, _ => by
    obtain rfl : k = 0 := by simpa using hk
    rfl
  | y :: r, 0, _, _, h2 => by
    have : ¬ y < x := by simpa using h2 (by simp)
    simp [ins, this]
  | y :: r, k + 1, hk, h1, h2 => by
    have : y < x := by simpa using h1 0 (by omega)
    simp only [ins, this, if_true, List.take_succ_cons, List.drop_succ_cons, List.cons_append, List.cons.injEq, true_and]
    exact ins_cut r k (by simpa using hk) (fun j hj => by simpa using h1 (j + 1) (by omega)) (fun h => by simpa using h2 (by simpa using h))
/-- In an ascending list a number that is not below the place's and is in the list stands there. -/
theorem asc_at {x : Int} : ∀ {l : List Int} {k : Nat}, Asc l → x ∈ l → k ≤ l.length → (∀ j, j < k → l[j]?.getD 0 < x) → (k < l.length → ¬ l[k]?.getD 0 < x) → k < l.length ∧ l[k]?.getD 0 = x
  | [], k, _, h, _, _, _ => by simp at h
  | y :: r, 0, ha, hm, _, _, h2 => by
    unfold Asc at ha
    rw [List.pairwise_cons] at ha
    have h3 : ¬ y < x := by simpa using h2 (by simp)
    rw [List.mem_cons] at hm
    rcases hm with rfl | hm
    · simp
    · exact absurd (ha.1 x hm) h3
  | y :: r, k + 1, ha, hm, hk, h1, h2 => by
    unfold Asc at ha
    rw [List.pairwise_cons] at ha
    have h0 : y < x := by simpa using h1 0 (by omega)
    rw [List.mem_cons] at hm
    rcases hm with rfl | hm
    · omega
    · have := asc_at (l := r) (k := k) ha.2 hm (by simpa using hk) (fun j hj => by simpa using h1 (j + 1) (by omega)) (fun h => by simpa using h2 (by simpa using h))
      simpa using this
theorem asc_ext : ∀ {l m : List Int}, Asc l → Asc m → (∀ x, x ∈ l ↔ x ∈ m) → l = m
  | [], [], _, _, _ => rfl
  | [], y :: r, _, _, h => by have := (h y).2 (by simp); simp at this
  | y :: r, [], _, _, h => by have := (h y).1 (by simp); simp at this
  | y :: r, z :: q, ha, hb, h => by
    unfold Asc at ha hb
    rw [List.pairwise_cons] at ha hb
    have e : y = z := by
      have h1 := (h y).1 (by simp)
      have h2 := (h z).2 (by simp)
      rw [List.mem_cons] at h1 h2
      rcases h1 with h1 | h1
      · exact h1
      · rcases h2 with h2 | h2
        · exact h2.symm
        · have := hb.1 y h1
          have := ha.1 z h2
          omega
    subst e
    rw [asc_ext (l := r) (m := q) ha.2 hb.2 (fun x => by
      have h0 := h x
      rw [List.mem_cons, List.mem_cons] at h0
      constructor
      · intro hx
        rcases h0.1 (.inr hx) with e | e
        · subst e; exact absurd (ha.1 x hx) (by omega)
        · exact e
      · intro hx
        rcases h0.2 (.inr hx) with e | e
        · subst e; exact absurd (hb.1 x hx) (by omega)
        · exact e)]
theorem mem_nonneg {L : List Int} {k : Nat} {x : Int} : x ∈ nonneg L k ↔ ∃ v : Nat, v < k ∧ x = v ∧ 0 ≤ L[v]?.getD 0 := by
  unfold nonneg
  simp only [List.mem_map, List.mem_filter, List.mem_range, decide_eq_true_eq]
  constructor
  · rintro ⟨v, ⟨h1, h2⟩, rfl⟩; exact ⟨v, h1, rfl, h2⟩
  · rintro ⟨v, h1, rfl, h2⟩; exact ⟨v, ⟨h1, h2⟩, rfl⟩
theorem asc_nonneg (L : List Int) (k : Nat) : Asc (nonneg L k) := by
  induction k with
  | zero => simp [nonneg, Asc]
  | succ k ih =>
    by_cases h : 0 ≤ L[k]?.getD 0
    · rw [nonneg_yes h]
      unfold Asc at ih ⊢
      rw [List.pairwise_append]
      refine ⟨ih, by simp, fun a ha b hb => ?_⟩
      obtain ⟨v, hv, rfl, -⟩ := mem_nonneg.1 ha
      simp at hb
      omega
    · rw [nonneg_no h]; exact ih

theorem distL_at {N : Int} {l : List Pip} {wo s : Int} {v : Nat} (hv : (v : Int) ≤ N) (h1 : 1 ≤ v) : (distL N l wo s)[v]?.getD 0 = far l wo s v := by
  unfold distL
  rw [List.getElem?_map, List.getElem?_range (by omega)]
  simp [show v ≠ 0 by omega]
theorem distL_zero {N : Int} {l : List Pip} {wo s : Int} : (distL N l wo s)[0]?.getD 0 = -1 := by
  unfold distL
  rw [List.getElem?_map, List.getElem?_range (by omega)]
  simp
/-- The nodes that are reached, ascending. -/
noncomputable def reachL (N : Int) (l : List Pip) (wo s : Int) : List Int := nonneg (distL N l wo s) (N.toNat + 1)
theorem mem_reachL {N : Int} {l : List Pip} {wo s x : Int} : x ∈ reachL N l wo s ↔ (1 ≤ x ∧ x ≤ N) ∧ 0 ≤ far l wo s x := by
  unfold reachL
  rw [mem_nonneg]
  constructor
  · rintro ⟨v, h1, rfl, h2⟩
    by_cases h0 : v = 0
    · subst h0
      rw [distL_zero] at h2
      omega
    · rw [distL_at (by omega) (by omega)] at h2
      exact ⟨⟨by omega, by omega⟩, h2⟩
  · rintro ⟨⟨h1, h2⟩, h3⟩
    refine ⟨x.toNat, by omega, by omega, ?_⟩
    rw [distL_at (by omega) (by omega), show ((x.toNat : Nat) : Int) = x by omega]
    exact h3
/-- A list that ascends, holds the node, holds reached nodes alone and is closed: all that is reached. -/
theorem reachL_is {N : Int} {l : List Pip} {s : Int} {R : List Int} (hg : goodNet N l = true) (ha : Asc R) (hs : s ∈ R) (hr : ∀ x ∈ R, (1 ≤ x ∧ x ≤ N) ∧ 0 ≤ far l 0 s x) (hc : ∀ k, k < l.length → ((pp l k).2.1 ∈ R ↔ (pp l k).2.2.1 ∈ R)) : R = reachL N l 0 s := by
  refine asc_ext ha (asc_nonneg _ _) (fun x => ?_)
  rw [mem_reachL]
  refine ⟨hr x, fun ⟨⟨h1, h2⟩, h3⟩ => ?_⟩
  refine (far_is (wo := 0) (s := s) hg).reach hg (R := fun v => v ∈ R) hs ?_ (far l 0 s x).toNat x h1 h2 (by omega)
  rintro u v ⟨k, hk, -, ho, hv⟩ hu
  unfold oth at ho
  split at ho
  · rename_i e
    rw [← ho]
    exact (hc k hk).1 (e ▸ hu)
  · split at ho
    · rename_i e
      rw [← ho]
      exact (hc k hk).2 (e ▸ hu)
    · omega
theorem far_self {N : Int} {l : List Pip} {wo s : Int} (hg : goodNet N l = true) : far l wo s s = 0 := (far_is (wo := wo) (s := s) hg).self
theorem reachL_len {N : Int} {l : List Pip} {wo s : Int} : (reachL N l wo s).length ≤ N.toNat := by
  unfold reachL
  have : nonneg (distL N l wo s) (N.toNat + 1) = (((List.range (N.toNat + 1)).filter fun v => decide (0 ≤ (distL N l wo s)[v]?.getD 0))).map fun v : Nat => (v : Int) := rfl
  rw [this, List.length_map, List.range_succ_eq_map, List.filter_cons, if_neg (by simp [distL_zero])]
  exact Nat.le_trans (List.length_filter_le _ _) (by simp)

/-- Two nodes are joined. -/
def Conn (l : List Pip) (u v : Int) : Prop := 0 ≤ far l 0 u v
theorem conn_iff {l : List Pip} {u v : Int} : Conn l u v ↔ ∃ n, Way l 0 u n v := by
  unfold Conn
  constructor
  · intro h
    obtain ⟨m, -, hw, -⟩ := far_some h
    exact ⟨m, hw⟩
  · rintro ⟨n, hn⟩
    obtain ⟨m, -, e, -⟩ := far_way hn
    omega
theorem way_cons {l : List Pip} {wo a b : Int} (he : Edge l wo a b) : ∀ (n : Nat) (v : Int), Way l wo b n v → Way l wo a (n + 1) v
  | 0, v, h => by
    obtain rfl : v = b := h
    exact ⟨a, rfl, he⟩
  | n + 1, v, ⟨u, hu, hv⟩ => ⟨u, way_cons he n u hu, hv⟩
theorem way_symm {N : Int} {l : List Pip} {wo a : Int} (hg : goodNet N l = true) : ∀ (n : Nat) (v : Int), Way l wo a n v → Way l wo v n a
  | 0, v, h => by
    obtain rfl : v = a := h
    rfl
  | n + 1, v, ⟨u, hu, hv⟩ => way_cons (hv.symm hg) n a (way_symm hg n u hu)
theorem way_trans {l : List Pip} {wo a b : Int} {m : Nat} (hm : Way l wo a m b) : ∀ (n : Nat) (v : Int), Way l wo b n v → ∃ k, Way l wo a k v
  | 0, v, h => by
    obtain rfl : v = b := h
    exact ⟨m, hm⟩
  | n + 1, v, ⟨u, hu, hv⟩ => let ⟨k, hk⟩ := way_trans hm n u hu; ⟨k + 1, u, hk, hv⟩
theorem Conn.symm {N : Int} {l : List Pip} {u v : Int} (hg : goodNet N l = true) (h : Conn l u v) : Conn l v u := by
  rw [conn_iff] at h ⊢
  obtain ⟨n, hn⟩ := h
  exact ⟨n, way_symm hg n v hn⟩
theorem Conn.trans {l : List Pip} {u v x : Int} (h : Conn l u v) (k : Conn l v x) : Conn l u x := by
  rw [conn_iff] at h k ⊢
  obtain ⟨n, hn⟩ := h
  obtain ⟨m, hm⟩ := k
  exact way_trans hn m x hm

/-- The nodes up to one that come first in their part. -/
noncomputable def cnt (N : Int) (l : List Pip) : Nat → Nat
  | 0 => 0
  | k + 1 => if (reachL N l 0 ((k : Int) + 1))[0]?.getD 0 = (k : Int) + 1 then cnt N l k + 1 else cnt N l k
theorem cnt_le (N : Int) (l : List Pip) : ∀ k, cnt N l k ≤ k
  | 0 => Nat.le_refl _
  | k + 1 => by
    have := cnt_le N l k
    unfold cnt
    split <;> omega
theorem reachL_ne {N : Int} {l : List Pip} {s : Int} (hg : goodNet N l = true) (hs : 1 ≤ s ∧ s ≤ N) : s ∈ reachL N l 0 s := by
  rw [mem_reachL]
  exact ⟨hs, by rw [far_self hg]; omega⟩
theorem reachL_pos {N : Int} {l : List Pip} {s : Int} (hg : goodNet N l = true) (hs : 1 ≤ s ∧ s ≤ N) : 0 < (reachL N l 0 s).length := List.length_pos_of_mem (reachL_ne hg hs)
/-- The first of a part is its least. -/
theorem reachL_first {N : Int} {l : List Pip} {s : Int} (hg : goodNet N l = true) (hs : 1 ≤ s ∧ s ≤ N) : (reachL N l 0 s)[0]?.getD 0 ∈ reachL N l 0 s ∧ ∀ x ∈ reachL N l 0 s, (reachL N l 0 s)[0]?.getD 0 ≤ x := by
  have h1 := reachL_pos hg hs
  have h2 : Asc (reachL N l 0 s) := asc_nonneg _ _
  generalize reachL N l 0 s = R at *
  cases R with
  | nil => simp at h1
  | cons y r =>
    unfold Asc at h2
    rw [List.pairwise_cons] at h2
    refine ⟨by simp, fun x hx => ?_⟩
    rw [List.mem_cons] at hx
    rcases hx with rfl | hx
    · simp
    · have := h2.1 x hx
      simp
      omega
theorem cnt_one {N : Int} {l : List Pip} (hg : goodNet N l = true) : ∀ k : Nat, 1 ≤ k → (k : Int) ≤ N → 1 ≤ cnt N l k ∧ (cnt N l k = 1 ↔ ∀ v : Int, 1 ≤ v → v ≤ k → Conn l 1 v)
  | 0, h, _ => by omega
  | 1, _, h1 => by
    have hN : 1 ≤ N := by omega
    obtain ⟨a, b⟩ := reachL_first (s := 1) hg ⟨by omega, hN⟩
    have c := (mem_reachL.1 a).1
    have d := b 1 (reachL_ne hg ⟨by omega, hN⟩)
    have e : cnt N l 1 = 1 := by
      unfold cnt
      rw [if_pos]
      · rfl
      · simp only [Int.ofNat_zero, Int.zero_add, Int.natCast_zero]
        omega
    refine ⟨by omega, fun _ v h2 h3 => ?_, fun _ => e⟩
    obtain rfl : v = 1 := by omega
    unfold Conn
    rw [far_self hg]
    omega
  | k + 2, _, h1 => by
    obtain ⟨i1, i2⟩ := cnt_one hg (k + 1) (by omega) (by omega)
    have hv : 1 ≤ ((k + 1 : Nat) : Int) + 1 ∧ ((k + 1 : Nat) : Int) + 1 ≤ N := by omega
    obtain ⟨a, b⟩ := reachL_first hg hv
    have c := (mem_reachL.1 a)
    have d := b _ (reachL_ne hg hv)
    unfold cnt
    split
    · rename_i e
      refine ⟨by omega, fun h => by omega, fun h => ?_⟩
      have h5 : Conn l 1 (((k + 1 : Nat) : Int) + 1) := h _ (by omega) (by omega)
      have h6 : (1 : Int) ∈ reachL N l 0 (((k + 1 : Nat) : Int) + 1) := mem_reachL.2 ⟨by omega, h5.symm hg⟩
      have := b 1 h6
      omega
    · rename_i e
      refine ⟨i1, fun h v h2 h3 => ?_, fun h => i2.2 (fun v h2 h3 => h v h2 (by omega))⟩
      have h4 := i2.1 h
      by_cases hvk : v ≤ ((k + 1 : Nat) : Int)
      · exact h4 v h2 hvk
      · obtain rfl : v = ((k + 1 : Nat) : Int) + 1 := by omega
        have h5 := h4 _ c.1.1 (by omega)
        exact h5.trans (Conn.symm hg c.2)
theorem filter_full {p : Nat → Bool} {l : List Nat} (h : (l.filter p).length = l.length) : ∀ x ∈ l, p x = true := by
  induction l with
  | nil => simp
  | cons y r ih =>
    have h1 := List.length_filter_le p r
    rw [List.filter_cons] at h
    split at h
    · rename_i hy
      intro x hx
      rw [List.mem_cons] at hx
      rcases hx with rfl | hx
      · exact hy
      · exact ih (by simpa using h) x hx
    · simp at h
      omega
theorem reachL_all {N : Int} {l : List Pip} {s : Int} (hN : 0 ≤ N) : ((reachL N l 0 s).length : Int) = N ↔ ∀ v : Int, 1 ≤ v → v ≤ N → Conn l s v := by
  have e : reachL N l 0 s = (((List.range N.toNat).map Nat.succ).filter fun v => decide (0 ≤ (distL N l 0 s)[v]?.getD 0)).map fun v : Nat => (v : Int) := by
    unfold reachL
    have : nonneg (distL N l 0 s) (N.toNat + 1) = (((List.range (N.toNat + 1)).filter fun v => decide (0 ≤ (distL N l 0 s)[v]?.getD 0))).map fun v : Nat => (v : Int) := rfl
    rw [this, List.range_succ_eq_map, List.filter_cons, if_neg (by simp [distL_zero])]
  rw [e, List.length_map]
  constructor
  · intro h v h1 h2
    have := filter_full (l := (List.range N.toNat).map Nat.succ) (p := fun v => decide (0 ≤ (distL N l 0 s)[v]?.getD 0)) (by simp; omega) v.toNat (by simp; exact ⟨v.toNat - 1, by omega, by omega⟩)
    simp only [decide_eq_true_eq] at this
    rw [distL_at (by omega) (by omega), show ((v.toNat : Nat) : Int) = v by omega] at this
    exact this
  · intro h
    rw [List.filter_eq_self.2]
    · simp; omega
    · intro x hx
      simp only [List.mem_map, List.mem_range] at hx
      obtain ⟨y, hy, rfl⟩ := hx
      rw [distL_at (by omega) (by omega)]
      have h3 : 0 ≤ far l 0 s ((y : Int) + 1) := h _ (by omega) (by omega)
      simpa using h3
/-- One part: all nodes are joined with the first. -/
theorem parts_one {N : Int} {l : List Pip} (hg : goodNet N l = true) : cnt N l N.toNat = 1 ↔ ((reachL N l 0 1).length : Int) = N := by
  have hN := (goodNet_get hg).1
  rw [reachL_all (by omega), (cnt_one hg N.toNat (by omega) (by omega)).2]
  exact ⟨fun h v h1 h2 => h v h1 (by omega), fun h v h1 h2 => h v h1 (by omega)⟩

theorem far_congr {l m : List Pip} {wo wo' s : Int} (h : ∀ u v, Edge l wo u v ↔ Edge m wo' u v) : far l wo s = far m wo' s := by
  have hw : ∀ n v, Way l wo s n v ↔ Way m wo' s n v := by
    intro n
    induction n with
    | zero => exact fun v => Iff.rfl
    | succ n ih => exact fun v => ⟨fun ⟨u, a, b⟩ => ⟨u, (ih u).1 a, (h u v).1 b⟩, fun ⟨u, a, b⟩ => ⟨u, (ih u).2 a, (h u v).2 b⟩⟩
  have hw2 : Way l wo s = Way m wo' s := by
    funext n v
    exact propext (hw n v)
  funext v
  by_cases hx : ∃ n, Way l wo s n v
  · obtain ⟨n, hn⟩ := hx
    obtain ⟨a, -, ea, wa, la⟩ := far_way hn
    obtain ⟨b, -, eb, wb, lb⟩ := far_way ((hw n v).1 hn)
    have h1 : ¬ a < b := fun h => lb a h ((hw a v).1 wa)
    have h2 : ¬ b < a := fun h => la b h ((hw b v).2 wb)
    omega
  · have hy : ¬ ∃ n, Way m wo' s n v := fun ⟨n, hn⟩ => hx ⟨n, (hw n v).2 hn⟩
    unfold far
    rw [dif_neg hx, dif_neg hy]

end Go.Proofs.Ytikjighlnpdgiaa

/-
  Networks, in plain lists: the nodes that the reference's search holds; sublists of a valid network; a pipe left out; the pipes that join parts.
-/
set_option linter.unusedVariables false
set_option linter.unusedSimpArgs false
namespace Go.Proofs.Ytikjighlnpdgiaa
open Go.RowKit

theorem asc_len : ∀ {l : List Int} {lo hi : Int}, Asc l → (∀ x ∈ l, lo ≤ x ∧ x ≤ hi) → lo ≤ hi + 1 → (l.length : Int) ≤ hi - lo + 1
  | [], lo, hi, _, _, h => by simp; omega
  | y :: r, lo, hi, ha, hb, h => by
    unfold Asc at ha
    rw [List.pairwise_cons] at ha
    have h1 := hb y (by simp)
    have := asc_len (l := r) (lo := y + 1) (hi := hi) ha.2 (fun x hx => ⟨by have := ha.1 x hx; omega, (hb x (by simp [hx])).2⟩) (by omega)
    simp only [List.length_cons]
    omega

structure Wet (M : Nat) (l : List Pip) (s : Int) (R : List Int) : Prop where
  asc : Asc R
  has : s ∈ R
  got : ∀ x ∈ R, (1 ≤ x ∧ x ≤ (M : Int)) ∧ 0 ≤ far l 0 s x
theorem Wet.len {M : Nat} {l : List Pip} {s : Int} {R : List Int} (h : Wet M l s R) : R.length ≤ M := by
  have := asc_len (lo := 1) (hi := (M : Int)) h.asc (fun x hx => (h.got x hx).1) (by omega)
  omega
theorem Wet.pos {M : Nat} {l : List Pip} {s : Int} {R : List Int} (h : Wet M l s R) : 0 < R.length := List.length_pos_of_mem h.has
theorem Wet.start {M : Nat} {l : List Pip} {s : Int} (hg : goodNet M l = true) (hs : 1 ≤ s ∧ s ≤ M) : Wet M l s [s] :=
  ⟨by simp [Asc], by simp, fun x hx => by
    obtain rfl : x = s := by simpa using hx
    exact ⟨hs, by rw [far_self hg]; omega⟩⟩
theorem pipe_edge {N : Int} {l : List Pip} {k : Nat} (hg : goodNet N l = true) (hk : k < l.length) : Edge l 0 (pp l k).2.1 (pp l k).2.2.1 ∧ Edge l 0 (pp l k).2.2.1 (pp l k).2.1 := by
  obtain ⟨h1, h2, h3, h4, -⟩ := goodNet_pipe hg hk
  have : Edge l 0 (pp l k).2.1 (pp l k).2.2.1 := ⟨k, hk, by omega, by unfold oth; rw [if_pos rfl], by omega⟩
  exact ⟨this, this.symm hg⟩
theorem Wet.put {M : Nat} {l : List Pip} {s x u : Int} {R : List Int} (hg : goodNet M l = true) (h : Wet M l s R) (hn : x ∉ R) (hu : u ∈ R) (he : Edge l 0 u x) : Wet M l s (ins x R) := by
  refine ⟨asc_ins h.asc hn, mem_ins.2 (.inr h.has), fun y hy => ?_⟩
  rw [mem_ins] at hy
  rcases hy with rfl | hy
  · have hd := far_is (wo := 0) (s := s) hg
    exact ⟨(he.ends hg).2.1, (hd.step u y he (h.got u hu).2).1⟩
  · exact h.got y hy
theorem Wet.done {M : Nat} {l : List Pip} {s : Int} {R : List Int} (hg : goodNet M l = true) (h : Wet M l s R) (hc : ∀ k, k < l.length → ((pp l k).2.1 ∈ R ↔ (pp l k).2.2.1 ∈ R)) : R = reachL M l 0 s :=
  reachL_is hg h.asc h.has h.got hc

theorem pp_mem {l : List Pip} {k : Nat} (hk : k < l.length) : pp l k ∈ l := by
  unfold pp
  rw [List.getElem?_eq_getElem hk]
  exact List.getElem_mem hk
theorem pp_get {l : List Pip} {k : Nat} (hk : k < l.length) : pp l k = l[k] := by
  unfold pp
  rw [List.getElem?_eq_getElem hk]
  rfl
theorem ids_rise {N : Int} {l : List Pip} (hg : goodNet N l = true) : ∀ (j i : Nat), j < l.length → i < j → (pp l i).1 < (pp l j).1
  | 0, _, _, h => by omega
  | j + 1, i, hj, hi => by
    have := (goodNet_get hg).2.2 (j + 1) hj
    simp only [okQ, Bool.and_eq_true, Bool.or_eq_true, decide_eq_true_eq] at this
    have h2 : (pp l j).1 < (pp l (j + 1)).1 := by
      rcases this.2 with h | h
      · omega
      · simpa using h
    by_cases e : i = j
    · subst e; exact h2
    · have := ids_rise hg j i (by omega) (by omega)
      omega
theorem goodNet_iff {N : Int} {l : List Pip} : goodNet N l = true ↔ (1 ≤ N ∧ N ≤ 8) ∧ l.length ≤ 10 ∧ (∀ p ∈ l, okPipe N p = true) ∧ l.Pairwise (fun p q => p.1 < q.1) := by
  constructor
  · intro h
    obtain ⟨h1, h2, h3⟩ := goodNet_get h
    refine ⟨h1, h2, fun p hp => ?_, ?_⟩
    · obtain ⟨k, hk, rfl⟩ := List.mem_iff_getElem.1 hp
      have := h3 k hk
      simp only [okQ, Bool.and_eq_true] at this
      rw [pp_get hk] at this
      exact this.1
    · rw [List.pairwise_iff_getElem]
      intro i j hi hj hij
      have := ids_rise h j i hj hij
      rwa [pp_get hi, pp_get hj] at this
  · rintro ⟨h1, h2, h3, h4⟩
    refine goodNet_all (inR_iff.2 h1) h2 (fun k hk => ?_)
    simp only [okQ, Bool.and_eq_true, Bool.or_eq_true, decide_eq_true_eq]
    refine ⟨h3 _ (pp_mem hk), ?_⟩
    by_cases e : k = 0
    · exact .inl e
    · right
      rw [List.pairwise_iff_getElem] at h4
      rw [pp_get hk, pp_get (show k - 1 < l.length by omega)]
      exact h4 (k - 1) k (by omega) hk (by omega)
theorem goodNet_sub {N : Int} {l m : List Pip} (hs : m.Sublist l) (h : goodNet N l = true) : goodNet N m = true := by
  rw [goodNet_iff] at h ⊢
  exact ⟨h.1, Nat.le_trans hs.length_le h.2.1, fun p hp => h.2.2.1 p (hs.subset hp), List.Pairwise.sublist hs h.2.2.2⟩
theorem edge_mem {l : List Pip} {wo u v : Int} : Edge l wo u v ↔ ∃ p ∈ l, p.1 ≠ wo ∧ oth p u = v ∧ 0 < v := by
  constructor
  · rintro ⟨k, hk, h⟩
    exact ⟨pp l k, pp_mem hk, h⟩
  · rintro ⟨p, hp, h⟩
    obtain ⟨k, hk, rfl⟩ := List.mem_iff_getElem.1 hp
    exact ⟨k, hk, by rw [pp_get hk]; exact h⟩
theorem mem_without {N : Int} {l : List Pip} {i : Nat} (hg : goodNet N l = true) (hi : i < l.length) {p : Pip} : p ∈ l.eraseIdx i ↔ p ∈ l ∧ p.1 ≠ (pp l i).1 := by
  rw [List.mem_eraseIdx_iff_getElem]
  constructor
  · rintro ⟨j, hj, hne, rfl⟩
    refine ⟨List.getElem_mem hj, ?_⟩
    have := pp_get hj
    rw [← this]
    by_cases h : j < i
    · have := ids_rise hg i j hi h
      omega
    · have := ids_rise hg j i hj (by omega)
      omega
  · rintro ⟨hp, hne⟩
    obtain ⟨j, hj, rfl⟩ := List.mem_iff_getElem.1 hp
    refine ⟨j, hj, fun e => ?_, rfl⟩
    subst e
    rw [pp_get hj] at hne
    exact hne rfl
/-- Without a pipe: in the list that leaves it out the ways are those that leave its Id out. -/
theorem far_without {N : Int} {l : List Pip} {i : Nat} (hg : goodNet N l = true) (hi : i < l.length) (s : Int) : far (l.eraseIdx i) 0 s = far l (pp l i).1 s := by
  refine far_congr (fun u v => ?_)
  rw [edge_mem, edge_mem]
  constructor
  · rintro ⟨p, hp, -, h⟩
    obtain ⟨h1, h2⟩ := (mem_without hg hi).1 hp
    exact ⟨p, h1, h2, h⟩
  · rintro ⟨p, hp, h2, h⟩
    refine ⟨p, (mem_without hg hi).2 ⟨hp, h2⟩, ?_, h⟩
    have := okPipe_iff.1 ((goodNet_iff.1 hg).2.2.1 p hp)
    omega
theorem reach_without {N : Int} {l : List Pip} {i : Nat} (hg : goodNet N l = true) (hi : i < l.length) (s : Int) : reachL N (l.eraseIdx i) 0 s = reachL N l (pp l i).1 s := by
  unfold reachL distL
  rw [far_without hg hi]

/-- The pipes, of the first k, that join nodes that are not connected yet. -/
noncomputable def span (l : List Pip) : Nat → List Pip
  | 0 => []
  | k + 1 => open Classical in if 0 ≤ far (span l k) 0 (pp l k).2.1 (pp l k).2.2.1 then span l k else span l k ++ [pp l k]
theorem span_yes {l : List Pip} {k : Nat} (h : 0 ≤ far (span l k) 0 (pp l k).2.1 (pp l k).2.2.1) : span l (k + 1) = span l k := by
  conv => lhs; unfold span
  rw [if_pos h]
theorem span_no {l : List Pip} {k : Nat} (h : ¬ 0 ≤ far (span l k) 0 (pp l k).2.1 (pp l k).2.2.1) : span l (k + 1) = span l k ++ [pp l k] := by
  conv => lhs; unfold span
  rw [if_neg h]
theorem span_sub (l : List Pip) : ∀ k, k ≤ l.length → (span l k).Sublist (l.take k)
  | 0, _ => by simp [span]
  | k + 1, hk => by
    have ih := span_sub l k (by omega)
    have e : l.take (k + 1) = l.take k ++ [pp l k] := by
      rw [List.take_add_one, List.getElem?_eq_getElem (by omega), pp_get (by omega)]
      rfl
    rw [e]
    by_cases h : 0 ≤ far (span l k) 0 (pp l k).2.1 (pp l k).2.2.1
    · rw [span_yes h]
      exact ih.trans (List.sublist_append_left _ _)
    · rw [span_no h]
      exact ih.append (List.Sublist.refl _)
theorem span_good {N : Int} {l : List Pip} (hg : goodNet N l = true) {k : Nat} (hk : k ≤ l.length) : goodNet N (span l k) = true :=
  goodNet_sub ((span_sub l k hk).trans (List.take_sublist _ _)) hg
theorem span_len (l : List Pip) {k : Nat} (hk : k ≤ l.length) : (span l k).length ≤ k := by
  have := (span_sub l k hk).length_le
  simp at this
  omega
theorem to_reached {N : Int} {l : List Pip} {wo s x : Int} (hx : 1 ≤ x ∧ x ≤ N) : x ∈ reachL N l wo s ↔ 0 ≤ far l wo s x := by
  rw [mem_reachL]
  exact ⟨fun h => h.2, fun h => ⟨hx, h⟩⟩

end Go.Proofs.Ytikjighlnpdgiaa

/-
  The reference's network without a pipe.
-/
set_option linter.unusedVariables false
set_option linter.unusedSimpArgs false
namespace Go.Proofs.Ytikjighlnpdgiaa
open Go.RowKit

theorem step_append_q {ops : Array Oper} {o : Oper} {a : Act} {K : Act → World → Prop} {Q : Exit → Act → World → Prop} {E : Prop} {w : World} (hgd : o.guard = none) (s x : Operand)
    (ho : o.op = .call { callee := .builtin .append, args := #[s, x], argTypes := #[29, 29] })
    (B : Nat) (v : Value) (l : List Pip) (hs : a.eval s = v) (hown : OwnQ w B v l)
    (ax : Option Addr) (m c : Nat) (l2 : List Pip) (hx : a.eval x = .slice ax m c) (hat : QAt w ax m l2)
    (N : Nat) (hN : l.length + m = N) (hb : N ≤ 1099511627776) (hB : B ≤ w.heap.size)
    (h : ∀ a' c' w', OwnQ w' B (.slice a' N c') (l ++ l2) → w.grownBy w' v.ownBlock → (Value.ownBlock (.slice a' N c') = v.ownBlock ∨ Value.ownBlock (.slice a' N c') = some w.heap.size) → K (a.put o.dst (.slice a' N c')) w') :
    if Region.wanted o (yielded ops a.tmps) = true then Oper.wp Try.prog o a w K Q else E := by
  have hw : Region.wanted o (yielded ops a.tmps) = true := by simp [Region.wanted, hgd]
  rw [if_pos hw]
  obtain ⟨i0, hi, hz0, hz1, hz2⟩ := info_parts Try.infoPipe
  obtain ⟨h1, h2, h3, h4⟩ := hat.cells qf_len qf_one
  cases ax with
  | some ad =>
    obtain ⟨v', w', hrun, k1, k2, _⟩ := run_append_own (P := Try.prog) w B 29 o.type 71 i0 _ 4 32 Try.underlying29 hi hz0 hz1 hz2 rfl (by decide) v l.length _ hown ad m c _ h1 (h3 ad rfl) h4 (by unfold maxLen; omega) (by omega) hB
    have k3 := append_block w B 29 o.type 71 i0 _ 4 32 Try.underlying29 hi hz0 hz1 hz2 v l.length _ hown ad m c _ h1 (h3 ad rfl) h4 (by unfold maxLen; omega) (by omega) hrun
    have ho2 : OwnQ w' B v' (l ++ l2) := OwnS.of_row qf_len (by decide) (n := l.length + m) (by rw [List.flatMap_append]; exact k1)
    obtain ⟨a', c', rfl⟩ := ho2.form
    have e : (l ++ l2).length = N := by rw [List.length_append, hat.1]; exact hN
    rw [e] at ho2 hrun k3
    unfold Oper.wp
    simp [execOp, ho, resolve, invoke, builtin, hs, hx, hrun, Result.andThen]
    exact h a' c' w' ho2 k2 k3
  | none =>
    obtain rfl := h2 rfl
    have hl2 : l2 = [] := List.eq_nil_of_length_eq_zero hat.1
    subst hl2
    have hrun := run_append_none (P := Try.prog) w B 29 o.type 71 i0 4 c Try.underlying29 hi v l.length _ hown
    obtain ⟨a', c', rfl⟩ := hown.form
    obtain rfl : l.length = N := by simpa using hN
    unfold Oper.wp
    simp [execOp, ho, resolve, invoke, builtin, hs, hx, hrun, Result.andThen]
    exact h a' c' w (by simpa using hown) (World.grownBy.refl _ _) (Or.inl rfl)

theorem QAt.take {w : World} {a : Option Addr} {n k : Nat} {l : List Pip} (h : QAt w a n l) (hk : k ≤ n) : QAt w a k (l.take k) :=
  ⟨by have := h.1; simp; omega, fun j hj => by
    obtain ⟨b, off, h1, h2, h3⟩ := h.2 j (by omega)
    refine ⟨b, off, h1, h2, fun i hi => ?_⟩
    rw [h3 i hi, List.getElem?_take, if_pos hj]⟩
theorem QAt.drop {w : World} {g off n k : Nat} {l : List Pip} (h : QAt w (some ⟨g, off, none⟩) n l) (hk : k ≤ n) : QAt w (some ⟨g, off + k * 4, none⟩) (n - k) (l.drop k) :=
  ⟨by have := h.1; simp; omega, fun j hj => by
    obtain ⟨b, o, h1, h2, h3⟩ := h.2 (k + j) (by omega)
    cases h1
    refine ⟨g, off + k * 4, rfl, h2, fun i hi => ?_⟩
    have := h3 i hi
    rw [show off + (k + j) * 4 + i = off + k * 4 + j * 4 + i by omega] at this
    rw [this, List.getElem?_drop]⟩
theorem QAt.nil' (w : World) (a : Option Addr) {l : List Pip} (h : l.length = 0) : QAt w a 0 l := ⟨h, fun k hk => absurd hk (by omega)⟩
theorem own_capQ {w : World} {B n c : Nat} {a : Option Addr} {l : List Pip} (h : OwnQ w B (.slice a n c) l) : n ≤ c := by
  have hl := OwnS.len h
  unfold OwnQ OwnS at h
  rcases h.2 with ⟨h1, h0⟩ | ⟨g, cap, cur, h1, hB, hg, hnc, -⟩
  · simp only [Value.slice.injEq] at h1
    omega
  · simp only [Value.slice.injEq] at h1
    omega
theorem OwnS.drew' {w : World} {B : Nat} {v : Value} {l : List Pip} (h : OwnQ w B v l) : OwnQ w.drew B v l := World.ownsRow.drew h
theorem OwnS.lit0' {w : World} {b : Nat} (h : w.heap.size = b) : OwnQ (w.alloc (.cells #[] 71)) b (.slice (some ⟨b, 0, none⟩) 0 0) [] := by
  subst h
  exact OwnS.lit0 w

set_option maxRecDepth 100000 in
set_option maxHeartbeats 4000000 in
theorem s_l2Without (M : Int) (i : Nat) (a : Option Addr) (n c : Nat) (l : List Pip) (w : World) (h : QAt w a n l) (hn : n ≤ 1000) (hc : n ≤ c) (hi : i < n) :
    Calls Try.prog 36 #[.agg #[.int .i64 M, .slice a n c], .int .i64 i] w fun e w' => ∃ a' c', e = .returned (.agg #[.int .i64 M, .slice a' (n - 1) c']) ∧ OwnQ w' w.heap.size (.slice a' (n - 1) c') (l.eraseIdx i) ∧ Below w.heap.size w w' := by
  obtain ⟨g, off, rfl, -, -⟩ := QAt.get h i hi
  have HL := hid h.1
  have H := hid h
  clear h
  obtain ⟨j, hj⟩ : ∃ j, j = i + 1 := ⟨_, rfl⟩
  have k0 : (0 : Int) ≤ (i : Int) := by omega
  have k3 : (0 : Int) ≤ (j : Int) := by omega
  have hs : (i : Int) + 1 = (j : Int) := by omega
  have hw : IntKind.i64.wrap ((i : Int) + 1) = (j : Int) := by rw [IntWalk.i64_in _ (by omega)]; exact hs
  have hw2 : IntKind.i64.wrap (j : Int) = (j : Int) := IntWalk.i64_in _ (by omega)
  have HJ := hid hj
  have hij : i < j := by omega
  have hjn : j ≤ n := by omega
  clear hj
  by_cases kc : c = j
  · obtain rfl : n = j := by omega
    subst kc
    have k1 : (i : Int) ≤ (c : Int) := by omega
    have k2 : ¬ c = i := by omega
    have k6 : ¬ c = 0 := by omega
    have HD := hid (show ∀ wx, Below w.heap.size w wx → QAt wx (some ⟨g, off, none⟩) 0 (l.drop c) from fun wx hb => QAt.nil' _ _ (by have := HL.out; simp; omega))
    go_enter Try.func36, Try.ntmps36
    go_upto_region 1 with fail
    have BA0 : Below w.heap.size w ((w.alloc (.cells #[.int .i64 M, .slice (some ⟨g, off, none⟩) (c) (c)] 31)).alloc (.cells #[.int .i64 0, .slice none 0 0] 31)) := by go_grown
    have ZA0 : ((w.alloc (.cells #[.int .i64 M, .slice (some ⟨g, off, none⟩) (c) (c)] 31)).alloc (.cells #[.int .i64 0, .slice none 0 0] 31)).heap.size = w.heap.size + 2 := by simp
    have TB0 : ((w.alloc (.cells #[.int .i64 M, .slice (some ⟨g, off, none⟩) (c) (c)] 31)).alloc (.cells #[.int .i64 0, .slice none 0 0] 31)).heap[w.heap.size + 1]? = some (.cells #[.int .i64 0, .slice none 0 0] 31 (0, 0)) := last_new _ _ _ (by simp)
    have TA0 : ((w.alloc (.cells #[.int .i64 M, .slice (some ⟨g, off, none⟩) (c) (c)] 31)).alloc (.cells #[.int .i64 0, .slice none 0 0] 31)).heap[w.heap.size]? = some (.cells #[.int .i64 M, .slice (some ⟨g, off, none⟩) (c) (c)] 31 (0, 0)) := mid_new _ _ _ _ rfl
    generalize (w.alloc (.cells #[.int .i64 M, .slice (some ⟨g, off, none⟩) (c) (c)] 31)).alloc (.cells #[.int .i64 0, .slice none 0 0] 31) = wA at *
    have BA := hid BA0
    have ZA := hid ZA0
    have TA := hid TA0
    have TB := hid TB0
    have KA := hid (show ∀ wx, Below wA.heap.size wA wx → (wx.cell? ⟨w.heap.size, 0, none⟩ = some (.int .i64 M) ∧ wx.cell? ⟨w.heap.size, 1, none⟩ = some (.slice (some ⟨g, off, none⟩) (c) (c))) from fun wx hb => ⟨by rw [hb.cell (p := ⟨w.heap.size, 0, none⟩) (by show w.heap.size < _; omega), cell_of_row wA _ _ _ _ (0, 0) TA0]; rfl, by rw [hb.cell (p := ⟨w.heap.size, 1, none⟩) (by show w.heap.size < _; omega), cell_of_row wA _ _ _ _ (0, 0) TA0]; rfl⟩)
    have n0 : wA.cell? ⟨w.heap.size, 0, none⟩ = some (.int .i64 M) := by rw [cell_of_row wA _ _ _ _ (0, 0) TA0]; rfl
    have n1 : wA.cell? ⟨w.heap.size, 1, none⟩ = some (.slice (some ⟨g, off, none⟩) (c) (c)) := by rw [cell_of_row wA _ _ _ _ (0, 0) TA0]; rfl
    have hzA : w.heap.size < wA.heap.size := by omega
    clear BA0 ZA0 TA0 TB0
    go_region_held3 (fun w' => (w'.cell? ⟨w.heap.size, 0, none⟩ = some (.int .i64 M) ∧ w'.cell? ⟨w.heap.size, 1, none⟩ = some (.slice (some ⟨g, off, none⟩) (c) (c)))) (first | go_keep | exact KA.out _ (by first | assumption | go_grown))
      (first | (refine step_append_q (by rfl) _ _ (by rfl) (wA.heap.size) _ [] (by rfl) (by exact ((OwnS.lit0' rfl).drew')) _ i _ (l.take i) (by rfl) (by exact QAt.take (H.out.below (bstep BA.out (by go_grown))) (by omega)) i (by simp) (by omega) (by simp) ?_; intro a4 c4 w4 h4 g4 b4; have hb4 : Below wA.heap.size wA w4 := Below.grown (by go_grown) g4 (by simp <;> omega) (fun q hq => by cases hq; exact Nat.le_refl _)) | (refine step_append_q (by rfl) _ _ (by rfl) (wA.heap.size) _ ([] ++ l.take i) (by rfl) h4 _ (0) _ (l.drop (c)) (by rfl) (HD.out w4 (bstep BA.out hb4)) (c - 1) (by have := HL.out; simp <;> omega) (by omega) (by exact hb4.size) ?_; intro a11 c11 w11 h11 g11 b11; have hb11 : Below wA.heap.size wA w11 := hb4.grown g11 hb4.size (fun q hq => (h4.lt q hq).1); have y0 : w11.cell? ⟨w.heap.size + 1, 0, none⟩ = some (.int .i64 0) := (by rw [hb11.cell (p := ⟨w.heap.size + 1, 0, none⟩) (by show w.heap.size + 1 < _; have := ZA.out; omega), cell_of_row wA _ _ _ _ (0, 0) TB.out] <;> rfl); have y1 : w11.cell? ⟨w.heap.size + 1, 1, none⟩ = some (.slice none 0 0) := (by rw [hb11.cell (p := ⟨w.heap.size + 1, 1, none⟩) (by show w.heap.size + 1 < _; have := ZA.out; omega), cell_of_row wA _ _ _ _ (0, 0) TB.out] <;> rfl); have f0 : w11.frozen? ⟨w.heap.size + 1, 0, none⟩ = false := (hb11.frozen (p := ⟨w.heap.size + 1, 0, none⟩) (by show w.heap.size + 1 < _; have := ZA.out; omega)).trans (frozen_of_row wA _ 0 _ _ TB.out); have f1 : w11.frozen? ⟨w.heap.size + 1, 1, none⟩ = false := (hb11.frozen (p := ⟨w.heap.size + 1, 1, none⟩) (by show w.heap.size + 1 < _; have := ZA.out; omega)).trans (frozen_of_row wA _ 1 _ _ TB.out); have z1 : w.heap.size + 1 < w11.heap.size := (by have := hb11.size; have := ZA.out; omega)))
    have TR : w11.heap[w.heap.size + 1]? = some (.cells #[.int .i64 0, .slice none 0 0] 31 (0, 0)) := (hb11.block (w.heap.size + 1) (by have := ZA.out; omega)).trans TB.out
    have e7 := heap_setCell_same _ _ 1 _ _ (.slice a11 (c - 1) c11) (heap_setCell_same _ _ 0 _ _ (.int .i64 M) TR)
    have u0 := cell_of_row _ _ 0 _ _ (0, 0) e7
    have u1 := cell_of_row _ _ 1 _ _ (0, 0) e7
    simp only [List.setIfInBounds_toArray, List.set_cons_zero, List.set_cons_succ, List.getElem?_toArray, List.getElem?_cons_zero, List.getElem?_cons_succ] at u0 u1
    have HE := hid (show [] ++ l.take i ++ l.drop (c) = l.eraseIdx i by rw [List.eraseIdx_eq_take_drop_succ, ← HJ.out]; rfl)
    rw [HE.out] at h11
    have HO := hid h11
    have HB := hid hb11
    clear g4 b4 b11 g11 y0 y1 f0 f1 e7 TR h4 hb4 h11 hb11
    go_wp2
    refine bodyPost_ret (v := .agg #[.int .i64 M, .slice a11 (c - 1) c11]) (by simp [results, Try.results36, go_sem, *]) rfl ⟨_, _, rfl, ?_, ?_⟩
    · exact ((HO.out.far (by have := ZA.out; omega)).far (by have := ZA.out; omega)).mono (by have := ZA.out; omega)
    · exact ((bstep BA.out HB.out).setCell (by show w.heap.size ≤ w.heap.size + 1; omega) _).setCell (by show w.heap.size ≤ w.heap.size + 1; omega) _
  · have k1 : (i : Int) ≤ (c : Int) := by omega
    have k2 : ¬ c = i := by omega
    have k4 : (j : Int) ≤ (n : Int) := by omega
    have k5 : (n : Int) ≤ (c : Int) := by omega
    have k6 : ¬ c = 0 := by omega
    have HD := hid (show ∀ wx, Below w.heap.size w wx → QAt wx (some ⟨g, off + j * 4, none⟩) (n - j) (l.drop j) from fun wx hb => QAt.drop (H.out.below hb) (by omega))
    go_enter Try.func36, Try.ntmps36
    go_upto_region 1 with fail
    have BA0 : Below w.heap.size w ((w.alloc (.cells #[.int .i64 M, .slice (some ⟨g, off, none⟩) (n) (c)] 31)).alloc (.cells #[.int .i64 0, .slice none 0 0] 31)) := by go_grown
    have ZA0 : ((w.alloc (.cells #[.int .i64 M, .slice (some ⟨g, off, none⟩) (n) (c)] 31)).alloc (.cells #[.int .i64 0, .slice none 0 0] 31)).heap.size = w.heap.size + 2 := by simp
    have TB0 : ((w.alloc (.cells #[.int .i64 M, .slice (some ⟨g, off, none⟩) (n) (c)] 31)).alloc (.cells #[.int .i64 0, .slice none 0 0] 31)).heap[w.heap.size + 1]? = some (.cells #[.int .i64 0, .slice none 0 0] 31 (0, 0)) := last_new _ _ _ (by simp)
    have TA0 : ((w.alloc (.cells #[.int .i64 M, .slice (some ⟨g, off, none⟩) (n) (c)] 31)).alloc (.cells #[.int .i64 0, .slice none 0 0] 31)).heap[w.heap.size]? = some (.cells #[.int .i64 M, .slice (some ⟨g, off, none⟩) (n) (c)] 31 (0, 0)) := mid_new _ _ _ _ rfl
    generalize (w.alloc (.cells #[.int .i64 M, .slice (some ⟨g, off, none⟩) (n) (c)] 31)).alloc (.cells #[.int .i64 0, .slice none 0 0] 31) = wA at *
    have BA := hid BA0
    have ZA := hid ZA0
    have TA := hid TA0
    have TB := hid TB0
    have KA := hid (show ∀ wx, Below wA.heap.size wA wx → (wx.cell? ⟨w.heap.size, 0, none⟩ = some (.int .i64 M) ∧ wx.cell? ⟨w.heap.size, 1, none⟩ = some (.slice (some ⟨g, off, none⟩) (n) (c))) from fun wx hb => ⟨by rw [hb.cell (p := ⟨w.heap.size, 0, none⟩) (by show w.heap.size < _; omega), cell_of_row wA _ _ _ _ (0, 0) TA0]; rfl, by rw [hb.cell (p := ⟨w.heap.size, 1, none⟩) (by show w.heap.size < _; omega), cell_of_row wA _ _ _ _ (0, 0) TA0]; rfl⟩)
    have n0 : wA.cell? ⟨w.heap.size, 0, none⟩ = some (.int .i64 M) := by rw [cell_of_row wA _ _ _ _ (0, 0) TA0]; rfl
    have n1 : wA.cell? ⟨w.heap.size, 1, none⟩ = some (.slice (some ⟨g, off, none⟩) (n) (c)) := by rw [cell_of_row wA _ _ _ _ (0, 0) TA0]; rfl
    have hzA : w.heap.size < wA.heap.size := by omega
    clear BA0 ZA0 TA0 TB0
    go_region_held3 (fun w' => (w'.cell? ⟨w.heap.size, 0, none⟩ = some (.int .i64 M) ∧ w'.cell? ⟨w.heap.size, 1, none⟩ = some (.slice (some ⟨g, off, none⟩) (n) (c)))) (first | go_keep | exact KA.out _ (by first | assumption | go_grown))
      (first | (refine step_append_q (by rfl) _ _ (by rfl) (wA.heap.size) _ [] (by rfl) (by exact ((OwnS.lit0' rfl).drew')) _ i _ (l.take i) (by rfl) (by exact QAt.take (H.out.below (bstep BA.out (by go_grown))) (by omega)) i (by simp) (by omega) (by simp) ?_; intro a4 c4 w4 h4 g4 b4; have hb4 : Below wA.heap.size wA w4 := Below.grown (by go_grown) g4 (by simp <;> omega) (fun q hq => by cases hq; exact Nat.le_refl _)) | (refine step_append_q (by rfl) _ _ (by rfl) (wA.heap.size) _ ([] ++ l.take i) (by rfl) h4 _ (n - j) _ (l.drop (j)) (by rfl) (HD.out w4 (bstep BA.out hb4)) (n - 1) (by have := HL.out; simp <;> omega) (by omega) (by exact hb4.size) ?_; intro a11 c11 w11 h11 g11 b11; have hb11 : Below wA.heap.size wA w11 := hb4.grown g11 hb4.size (fun q hq => (h4.lt q hq).1); have y0 : w11.cell? ⟨w.heap.size + 1, 0, none⟩ = some (.int .i64 0) := (by rw [hb11.cell (p := ⟨w.heap.size + 1, 0, none⟩) (by show w.heap.size + 1 < _; have := ZA.out; omega), cell_of_row wA _ _ _ _ (0, 0) TB.out] <;> rfl); have y1 : w11.cell? ⟨w.heap.size + 1, 1, none⟩ = some (.slice none 0 0) := (by rw [hb11.cell (p := ⟨w.heap.size + 1, 1, none⟩) (by show w.heap.size + 1 < _; have := ZA.out; omega), cell_of_row wA _ _ _ _ (0, 0) TB.out] <;> rfl); have f0 : w11.frozen? ⟨w.heap.size + 1, 0, none⟩ = false := (hb11.frozen (p := ⟨w.heap.size + 1, 0, none⟩) (by show w.heap.size + 1 < _; have := ZA.out; omega)).trans (frozen_of_row wA _ 0 _ _ TB.out); have f1 : w11.frozen? ⟨w.heap.size + 1, 1, none⟩ = false := (hb11.frozen (p := ⟨w.heap.size + 1, 1, none⟩) (by show w.heap.size + 1 < _; have := ZA.out; omega)).trans (frozen_of_row wA _ 1 _ _ TB.out); have z1 : w.heap.size + 1 < w11.heap.size := (by have := hb11.size; have := ZA.out; omega)))
    have TR : w11.heap[w.heap.size + 1]? = some (.cells #[.int .i64 0, .slice none 0 0] 31 (0, 0)) := (hb11.block (w.heap.size + 1) (by have := ZA.out; omega)).trans TB.out
    have e7 := heap_setCell_same _ _ 1 _ _ (.slice a11 (n - 1) c11) (heap_setCell_same _ _ 0 _ _ (.int .i64 M) TR)
    have u0 := cell_of_row _ _ 0 _ _ (0, 0) e7
    have u1 := cell_of_row _ _ 1 _ _ (0, 0) e7
    simp only [List.setIfInBounds_toArray, List.set_cons_zero, List.set_cons_succ, List.getElem?_toArray, List.getElem?_cons_zero, List.getElem?_cons_succ] at u0 u1
    have HE := hid (show [] ++ l.take i ++ l.drop (j) = l.eraseIdx i by rw [List.eraseIdx_eq_take_drop_succ, ← HJ.out]; rfl)
    rw [HE.out] at h11
    have HO := hid h11
    have HB := hid hb11
    clear g4 b4 b11 g11 y0 y1 f0 f1 e7 TR h4 hb4 h11 hb11
    go_wp2
    refine bodyPost_ret (v := .agg #[.int .i64 M, .slice a11 (n - 1) c11]) (by simp [results, Try.results36, go_sem, *]) rfl ⟨_, _, rfl, ?_, ?_⟩
    · exact ((HO.out.far (by have := ZA.out; omega)).far (by have := ZA.out; omega)).mono (by have := ZA.out; omega)
    · exact ((bstep BA.out HB.out).setCell (by show w.heap.size ≤ w.heap.size + 1; omega) _).setCell (by show w.heap.size ≤ w.heap.size + 1; omega) _

end Go.Proofs.Ytikjighlnpdgiaa

