/-
  Texts of this claim, joined: PipeC, NetC, Without, Down, TreeA, Funcs.
-/
import Derived.Deep.RegionLaw
import Derived.Test.YtikjighlnpdgiaaRi1
import Derived.Test.YtikjighlnpdgiaaRi2
import Derived.Test.YtikjighlnpdgiaaRi3
import Derived.Test.YtikjighlnpdgiaaRi4
import Derived.Test.YtikjighlnpdgiaaRi5
/-
  What the laws do with Pipes: they build them anew and compare them.
-/
set_option linter.unusedVariables false
set_option linter.unusedSimpArgs false
namespace Go.Proofs.Ytikjighlnpdgiaa
open Go.RowKit

theorem l_toPipe (x0 x1 x2 x3 : Int) (w : World) : Calls Try.prog 81 #[.agg #[.int .i64 x0, .int .i64 x1, .int .i64 x2, .int .i64 x3]] w fun e w' => e = .returned (.agg #[.int .i64 x0, .int .i64 x1, .int .i64 x2, .int .i64 x3]) ∧ Below w.heap.size w w' := by
  go_enter Try.func81, Try.ntmps81
  go_wp2
  go_returns
  exact ⟨rfl, by go_grown⟩

theorem l_eqPipe (x0 x1 x2 x3 : Int) (w : World) : Calls Try.prog 87 #[.agg #[.int .i64 x0, .int .i64 x1, .int .i64 x2, .int .i64 x3], .agg #[.int .i64 x0, .int .i64 x1, .int .i64 x2, .int .i64 x3]] w fun e w' => e = .returned (.bool true) ∧ Below w.heap.size w w' := by
  go_enter Try.func87, Try.ntmps87
  go_wp2
  go_ret
  exact ⟨rfl, by go_grown⟩

theorem Try.infoPipe : (Try.prog.info? 71).map (fun i => (i.zero, i.size, i.bytes)) = some (some (.agg #[.int .i64 0, .int .i64 0, .int .i64 0, .int .i64 0]), 4, 32) := by kernel_rfl

theorem OwnQ.len {w : World} {B : Nat} {a : Option Addr} {n c : Nat} {l : List Pip} (h : OwnQ w B (.slice a n c) l) : l.length = n := OwnS.len h
theorem OwnQ.cells {w : World} {B g k n c : Nat} {l : List Pip} (h : OwnQ w B (.slice (some ⟨g, 0, none⟩) n c) l) (hk : k < n) :
    w.cell? ⟨g, k * 4, none⟩ = some (.int .i64 ((l[k]?.getD default).1)) ∧ w.cell? ⟨g, k * 4 + 1, none⟩ = some (.int .i64 ((l[k]?.getD default).2.1)) ∧ w.cell? ⟨g, k * 4 + 2, none⟩ = some (.int .i64 ((l[k]?.getD default).2.2.1)) ∧ w.cell? ⟨g, k * 4 + 3, none⟩ = some (.int .i64 ((l[k]?.getD default).2.2.2)) := by
  obtain ⟨b, off, h1, h2, h3⟩ := (OwnS.at qf_len h).2 k hk
  simp only [Option.some.injEq, Addr.mk.injEq] at h1
  obtain ⟨rfl, rfl, -⟩ := h1
  simp only [Nat.zero_add] at h3
  exact ⟨h3 0 (by decide), h3 1 (by decide), h3 2 (by decide), h3 3 (by decide)⟩
theorem OwnQ.frozen {w : World} {B g k n c : Nat} {l : List Pip} (h : OwnQ w B (.slice (some ⟨g, 0, none⟩) n c) l) :
    w.frozen? ⟨g, k * 4, none⟩ = false ∧ w.frozen? ⟨g, k * 4 + 1, none⟩ = false ∧ w.frozen? ⟨g, k * 4 + 2, none⟩ = false ∧ w.frozen? ⟨g, k * 4 + 3, none⟩ = false := ⟨OwnS.frozen h, OwnS.frozen h, OwnS.frozen h, OwnS.frozen h⟩

theorem l_toPipeS (a : Option Addr) (n c : Nat) (l : List Pip) (w : World) (h : QAt w a n l) (hn : n ≤ 1048576) :
    Calls Try.prog 39 #[.slice a n c] w fun e w' => ∃ a' c', e = .returned (.slice a' n c') ∧ OwnQ w' w.heap.size (.slice a' n c') l ∧ Below w.heap.size w w' := by
  obtain ⟨i0, hi, hz0, hz1, hz2⟩ := info_parts Try.infoPipe
  have H := hid h
  clear h
  have HI := hid hi
  have HZ := hid hz0
  have HZ1 := hid hz1
  have HZ2 := hid hz2
  clear hi hz0 hz1 hz2
  go_enter Try.func39, Try.ntmps39
  go_wp2_with (at_make; refine wpList_make_full _ rfl _ _ 29 rfl w.heap.size 71 i0 (.agg #[.int .i64 0, .int .i64 0, .int .i64 0, .int .i64 0]) 4 Try.underlying29 HI.out HZ.out HZ1.out _ _ _ _ n rfl rfl rfl rfl ?b2 ?b3 ?b4 ?_)
  case b2 => rw [HZ2.out]; omega
  case b3 => unfold maxLen; omega
  case b4 => exact Nat.le_refl _
  intro w1 hown hgrow
  have ho : OwnQ w1 w.heap.size _ (List.replicate n ((0, 0, 0, 0) : Pip)) := OwnS.of_row qf_len (by decide) (n := n) (by rw [← madeFlat qf 4 qf_len (by decide) ((0, 0, 0, 0) : Pip) _ rfl n]; exact hown)
  have HO := hid ho
  have HB := hid (below_of_grown hgrow (Nat.le_refl _) (fun k hk => by simp at hk))
  clear hown ho hgrow
  go_wp2
  go_loopw [4] (fun i wr => ∃ (k : Nat) (l' : List Pip), k ≤ n ∧ i = .int .i64 k ∧ Hid (OwnQ wr w.heap.size (.slice (some ⟨w.heap.size, 0, none⟩) n n) l' ∧ l'.take k = l.take k ∧ Below w.heap.size w wr)) (fun i _ => n - (intOf i).toNat)
  case atStart => exact ⟨0, List.replicate n (0, 0, 0, 0), Nat.zero_le _, rfl, HO.out, by simp, HB.out⟩
  case round =>
    obtain ⟨k, l', hk, rfl, hh⟩ := hrel
    clear HO HB
    by_cases hlt : k < n
    · obtain ⟨b, off, rfl, hbw, x0, x1, x2, x3⟩ := QAt.get (H.out.below hh.out.2.2) k hlt
      obtain ⟨y0, y1, y2, y3⟩ := hh.out.1.cells (k := k) hlt
      obtain ⟨f0, f1, f2, f3⟩ := hh.out.1.frozen (k := k)
      go_wp2_with fail
      refine (l_toPipe _ _ _ _ _).mono ?_
      rintro e w2 ⟨rfl, hb⟩
      obtain ⟨hc, hf⟩ := bcell hb
      have hw1 : w.heap.size < wr.heap.size := (hh.out.1.lt _ rfl).2
      go_wp2
      go_roundw
      case rel =>
        obtain ⟨o1, g1⟩ := OwnS.setAll qf_len (by decide) (hh.out.1.below hb) hlt (l[k]?.getD default)
        exact ⟨k + 1, l'.set k (l[k]?.getD default), by omega, by go_num, o1, take_setS H.out.1 hh.out.1.len hlt hh.out.2.1, (bstep hh.out.2.2 hb).grown g1 (by have := hb.size; omega) (fun q hq => by simp at hq; omega)⟩
      case measure => simp [intOf]; omega
    · go_wp2
      go_ret
      have hl := hh.out.1.len
      have hl2 := H.out.1
      have e := hh.out.2.1
      rw [List.take_of_length_le (by omega), List.take_of_length_le (by omega)] at e
      subst e
      exact ⟨_, _, rfl, hh.out.1, hh.out.2.2⟩

theorem l_szPipeS_yes (a : Option Addr) (n c : Nat) (w : World) (hn : n ≤ 1048576) : Calls Try.prog 29 #[.slice a n c, .int .i64 1048576] w fun e w' => e = .returned (.int .i64 (1048576 - (n : Int))) ∧ w = w' := by
  go_enter Try.func29, Try.ntmps29
  go_wp2
  go_ret
  exact ⟨rfl, rfl⟩
theorem l_szPipeS_no (a : Option Addr) (n c : Nat) (w : World) (hn : 1048576 < n) (hn2 : n ≤ 9223372036854775807) : Calls Try.prog 29 #[.slice a n c, .int .i64 1048576] w fun e w' => e = .returned (.int .i64 (-1)) ∧ w = w' := by
  go_enter Try.func29, Try.ntmps29
  go_wp2
  go_ret
  exact ⟨rfl, rfl⟩

set_option maxHeartbeats 2000000 in
theorem l_eqPipeS (a b : Option Addr) (n c d : Nat) (l : List Pip) (w : World) (h : QAt w a n l) (h' : QAt w b n l) (hn : n ≤ 1048576) :
    Calls Try.prog 52 #[.slice a n c, .slice b n d] w fun e w' => e = .returned (.bool true) ∧ Below w.heap.size w w' := by
  have H := hid h
  have H' := hid h'
  clear h h'
  go_enter Try.func52, Try.ntmps52
  go_wp2
  go_loopg [5] n (fun g i wr => ∃ k : Nat, k ≤ n ∧ g = n - k ∧ i = .int .i64 k ∧ Hid (Below w.heap.size w wr))
  case atStart => exact ⟨0, Nat.zero_le _, rfl, rfl, Below.refl _ _⟩
  case round =>
    obtain ⟨k, hk, rfl, rfl, hh⟩ := hrel
    by_cases hlt : k < n
    · obtain ⟨b1, off1, rfl, hb1, x0, x1, x2, x3⟩ := QAt.get (H.out.below hh.out) k hlt
      obtain ⟨b2, off2, rfl, hb2, y0, y1, y2, y3⟩ := QAt.get (H'.out.below hh.out) k hlt
      go_upto_region 6 with fail
      have q0 : ∀ wy w5 : World, Below wy.heap.size wy w5 → (wy.cell? ⟨b1, off1 + k * 4, none⟩ = some (.int .i64 (pp l k).1) ∧ wy.cell? ⟨b1, off1 + k * 4 + 1, none⟩ = some (.int .i64 (pp l k).2.1) ∧ wy.cell? ⟨b1, off1 + k * 4 + 2, none⟩ = some (.int .i64 (pp l k).2.2.1) ∧ wy.cell? ⟨b1, off1 + k * 4 + 3, none⟩ = some (.int .i64 (pp l k).2.2.2) ∧ wy.cell? ⟨b2, off2 + k * 4, none⟩ = some (.int .i64 (pp l k).1) ∧ wy.cell? ⟨b2, off2 + k * 4 + 1, none⟩ = some (.int .i64 (pp l k).2.1) ∧ wy.cell? ⟨b2, off2 + k * 4 + 2, none⟩ = some (.int .i64 (pp l k).2.2.1) ∧ wy.cell? ⟨b2, off2 + k * 4 + 3, none⟩ = some (.int .i64 (pp l k).2.2.2)) → (w5.cell? ⟨b1, off1 + k * 4, none⟩ = some (.int .i64 (pp l k).1) ∧ w5.cell? ⟨b1, off1 + k * 4 + 1, none⟩ = some (.int .i64 (pp l k).2.1) ∧ w5.cell? ⟨b1, off1 + k * 4 + 2, none⟩ = some (.int .i64 (pp l k).2.2.1) ∧ w5.cell? ⟨b1, off1 + k * 4 + 3, none⟩ = some (.int .i64 (pp l k).2.2.2) ∧ w5.cell? ⟨b2, off2 + k * 4, none⟩ = some (.int .i64 (pp l k).1) ∧ w5.cell? ⟨b2, off2 + k * 4 + 1, none⟩ = some (.int .i64 (pp l k).2.1) ∧ w5.cell? ⟨b2, off2 + k * 4 + 2, none⟩ = some (.int .i64 (pp l k).2.2.1) ∧ w5.cell? ⟨b2, off2 + k * 4 + 3, none⟩ = some (.int .i64 (pp l k).2.2.2)) :=
        fun wy w5 hb ⟨z0, z1, z2, z3, z4, z5, z6, z7⟩ => ⟨(hb.cell (World.block_lt_of_cell? wy _ z0)).trans z0, (hb.cell (World.block_lt_of_cell? wy _ z1)).trans z1, (hb.cell (World.block_lt_of_cell? wy _ z2)).trans z2, (hb.cell (World.block_lt_of_cell? wy _ z3)).trans z3, (hb.cell (World.block_lt_of_cell? wy _ z4)).trans z4, (hb.cell (World.block_lt_of_cell? wy _ z5)).trans z5, (hb.cell (World.block_lt_of_cell? wy _ z6)).trans z6, (hb.cell (World.block_lt_of_cell? wy _ z7)).trans z7⟩
      have Q0 := hid q0
      clear q0
      go_cut [26] (fun s26 wx => s26 = .bool false ∧ Hid (Below wr.heap.size wr wx))
      case first =>
        go_region_held3 (fun w' => (w'.cell? ⟨b1, off1 + k * 4, none⟩ = some (.int .i64 (pp l k).1) ∧ w'.cell? ⟨b1, off1 + k * 4 + 1, none⟩ = some (.int .i64 (pp l k).2.1) ∧ w'.cell? ⟨b1, off1 + k * 4 + 2, none⟩ = some (.int .i64 (pp l k).2.2.1) ∧ w'.cell? ⟨b1, off1 + k * 4 + 3, none⟩ = some (.int .i64 (pp l k).2.2.2) ∧ w'.cell? ⟨b2, off2 + k * 4, none⟩ = some (.int .i64 (pp l k).1) ∧ w'.cell? ⟨b2, off2 + k * 4 + 1, none⟩ = some (.int .i64 (pp l k).2.1) ∧ w'.cell? ⟨b2, off2 + k * 4 + 2, none⟩ = some (.int .i64 (pp l k).2.2.1) ∧ w'.cell? ⟨b2, off2 + k * 4 + 3, none⟩ = some (.int .i64 (pp l k).2.2.2))) (first | go_keep | exact Q0.out _ _ (by assumption) (by first | assumption | (refine ⟨?_, ?_, ?_, ?_, ?_, ?_, ?_, ?_⟩ <;> assumption) | simp [*]))
          (first | (go_at_call 87; refine (l_eqPipe _ _ _ _ _).mono ?_; rintro e w5 ⟨rfl, hb5⟩; obtain ⟨hc5, hf5⟩ := bcell hb5))
        all_goals (go_wp2_with fail; go_meet)
        all_goals refine ⟨rfl, ?_⟩
        all_goals exact bstep ((Below.refl _ _).drew : Below wr.heap.size wr _) (by assumption)
      case rest =>
        obtain ⟨rfl, hx⟩ := hcut
        clear Q0
        go_wp2
        go_roundg (n - (k + 1))
        case measure => omega
        case rel => exact ⟨k + 1, by omega, rfl, by go_num, bstep hh.out hx.out⟩
    · obtain rfl : k = n := by omega
      go_wp2
      go_ret
      exact ⟨rfl, hh.out⟩

end Go.Proofs.Ytikjighlnpdgiaa

/-
  What the laws do with networks.
-/
set_option linter.unusedVariables false
set_option linter.unusedSimpArgs false
namespace Go.Proofs.Ytikjighlnpdgiaa
open Go.RowKit

theorem OwnS.far {α : Type} [Inhabited α] {f : α → List Value} {s : Nat} {t : TypeId} {w : World} {B b o : Nat} {v u : Value} {l : List α} (h : OwnS f s t w B v l) (hb : b < B) : OwnS f s t (w.setCell ⟨b, o, none⟩ u) B v l :=
  h.kept (grown_setCell w b o u) (by
    cases hv : v.ownBlock with
    | none => exact .inl rfl
    | some k =>
      refine .inr fun e => ?_
      have := (h.lt k hv).1
      cases e
      omega)
theorem last_new (W : World) (x : Obj) (g : Nat) (hg : g = W.heap.size) : (W.alloc x).heap[g]? = some x := by
  subst hg
  exact heap_alloc_new _ _

theorem l_szNetwork_yes (N : Int) (a : Option Addr) (n c : Nat) (w : World) (hn : n ≤ 1048576) : Calls Try.prog 5 #[.agg #[.int .i64 N, .slice a n c], .int .i64 1048576] w fun e w' => e = .returned (.int .i64 (1048576 - (n : Int))) ∧ Below w.heap.size w w' := by
  go_enter Try.func5, Try.ntmps5
  go_wp2_with fail
  refine (l_szPipeS_yes _ _ _ _ hn).mono ?_
  rintro e _ ⟨rfl, rfl⟩
  go_wp2
  go_ret
  exact ⟨rfl, by go_grown⟩
theorem l_szNetwork_no (N : Int) (a : Option Addr) (n c : Nat) (w : World) (hn : 1048576 < n) (hn2 : n ≤ 9223372036854775807) : Calls Try.prog 5 #[.agg #[.int .i64 N, .slice a n c], .int .i64 1048576] w fun e w' => e = .returned (.int .i64 (-1)) ∧ Below w.heap.size w w' := by
  go_enter Try.func5, Try.ntmps5
  go_wp2_with fail
  refine (l_szPipeS_no _ _ _ _ hn hn2).mono ?_
  rintro e _ ⟨rfl, rfl⟩
  go_wp2
  go_ret
  exact ⟨rfl, by go_grown⟩

theorem l_toNetwork (N : Int) (a : Option Addr) (n c : Nat) (l : List Pip) (w : World) (h : QAt w a n l) (hn : n ≤ 1048576) :
    Calls Try.prog 7 #[.agg #[.int .i64 N, .slice a n c]] w fun e w' => ∃ a' c', e = .returned (.agg #[.int .i64 N, .slice a' n c']) ∧ OwnQ w' w.heap.size (.slice a' n c') l ∧ Below w.heap.size w w' := by
  have H := hid h
  clear h
  go_enter Try.func7, Try.ntmps7
  go_wp2_with fail
  refine (l_toPipeS _ _ _ l _ (H.out.below (by go_grown)) (by omega)).mono ?_
  rintro e w1 ⟨a1, c1, rfl, ho, hb⟩
  obtain ⟨hc_w1, hf_w1⟩ := bcell hb
  have hz := hb.size
  simp only [World.size_alloc] at hz
  have hz0 : w.heap.size < w1.heap.size := by omega
  have hz1 : w.heap.size + 1 < w1.heap.size := by omega
  have hz2 : w.heap.size + 1 + 1 < w1.heap.size := by omega
  have HO := hid ho
  have HB := hid (bstep (by go_grown) hb : Below w.heap.size w w1)
  clear ho
  have T1 : w1.heap[w.heap.size + 1]? = some (.cells #[.int .i64 0, .slice none 0 0] 31 (0, 0)) := (hb.block _ (by simp)).trans (mid_new _ _ _ _ (by simp))
  have T2 : w1.heap[w.heap.size + 1 + 1]? = some (.cells #[.int .i64 N, .slice none 0 0] 31 (0, 0)) := (hb.block _ (by simp)).trans (last_new _ _ _ (by simp))
  have n0 : w1.cell? ⟨w.heap.size + 1 + 1, 0, none⟩ = some (.int .i64 N) := by rw [cell_of_row w1 _ _ _ _ (0, 0) T2]; rfl
  clear hb
  go_wp2
  have e7 := heap_setCell_same _ _ 1 _ _ (.slice a1 n c1) (heap_setCell_same _ _ 0 _ _ (.int .i64 N) (other_cell (b := w.heap.size + 1 + 1) (o := 1) (u := .slice a1 n c1) T1 (by omega)))
  have u0 := cell_of_row _ _ 0 _ _ (0, 0) e7
  have u1 := cell_of_row _ _ 1 _ _ (0, 0) e7
  simp only [List.setIfInBounds_toArray, List.set_cons_zero, List.set_cons_succ, List.getElem?_toArray, List.getElem?_cons_zero, List.getElem?_cons_succ] at u0 u1
  refine bodyPost_ret (v := .agg #[.int .i64 N, .slice a1 n c1]) (by simp [results, Try.results7, go_sem, *]) rfl ⟨_, _, rfl, ?_, ?_⟩
  · exact (((HO.out.far (by simp)).far (by simp)).far (by simp)).mono (by simp <;> omega)
  · exact ((HB.out.setCell (by simp <;> omega) _).setCell (by simp <;> omega) _).setCell (by simp <;> omega) _

theorem l_eqNetwork (N : Int) (a b : Option Addr) (n c d : Nat) (l : List Pip) (w : World) (h : QAt w a n l) (h' : QAt w b n l) (hn : n ≤ 1048576) :
    Calls Try.prog 11 #[.agg #[.int .i64 N, .slice a n c], .agg #[.int .i64 N, .slice b n d]] w fun e w' => e = .returned (.bool true) ∧ Below w.heap.size w w' := by
  have H := hid h
  have H' := hid h'
  clear h h'
  have hx : (N != N) = false := by simp
  go_enter Try.func11, Try.ntmps11
  go_wp2_with fail
  refine (l_eqPipeS _ _ _ _ _ l _ (H.out.below (by go_grown)) (H'.out.below (by go_grown)) (by omega)).mono ?_
  rintro e w1 ⟨rfl, hb⟩
  go_wp2
  go_ret
  exact ⟨rfl, bstep (by go_grown) hb⟩

end Go.Proofs.Ytikjighlnpdgiaa

/-
  The reference's network without a pipe.
-/
set_option linter.unusedVariables false
set_option linter.unusedSimpArgs false
namespace Go.Proofs.Ytikjighlnpdgiaa
open Go.RowKit

theorem step_append_q {ops : Array Oper} {o : Oper} {a : Act} {K : Act → World → Prop} {Q : Exit → Act → World → Prop} {E : Prop} {w : World} (hgd : o.guard = none) (s x : Operand)
    (ho : o.op = .call { callee := .builtin .append, args := #[s, x], argTypes := #[29, 29] })
    (B : Nat) (v : Value) (l : List Pip) (hs : a.eval s = v) (hown : OwnQ w B v l)
    (ax : Option Addr) (m c : Nat) (l2 : List Pip) (hx : a.eval x = .slice ax m c) (hat : QAt w ax m l2)
    (N : Nat) (hN : l.length + m = N) (hb : N ≤ 1099511627776) (hB : B ≤ w.heap.size)
    (h : ∀ a' c' w', OwnQ w' B (.slice a' N c') (l ++ l2) → w.grownBy w' v.ownBlock → (Value.ownBlock (.slice a' N c') = v.ownBlock ∨ Value.ownBlock (.slice a' N c') = some w.heap.size) → K (a.put o.dst (.slice a' N c')) w') :
    if Region.wanted o (yielded ops a.tmps) = true then Oper.wp Try.prog o a w K Q else E := by
  have hw : Region.wanted o (yielded ops a.tmps) = true := by simp [Region.wanted, hgd]
  rw [if_pos hw]
  obtain ⟨i0, hi, hz0, hz1, hz2⟩ := info_parts Try.infoPipe
  obtain ⟨h1, h2, h3, h4⟩ := hat.cells qf_len qf_one
  cases ax with
  | some ad =>
    obtain ⟨v', w', hrun, k1, k2, _⟩ := run_append_own (P := Try.prog) w B 29 o.type 71 i0 _ 4 32 Try.underlying29 hi hz0 hz1 hz2 rfl (by decide) v l.length _ hown ad m c _ h1 (h3 ad rfl) h4 (by unfold maxLen; omega) (by omega) hB
    have k3 := append_block w B 29 o.type 71 i0 _ 4 32 Try.underlying29 hi hz0 hz1 hz2 v l.length _ hown ad m c _ h1 (h3 ad rfl) h4 (by unfold maxLen; omega) (by omega) hrun
    have ho2 : OwnQ w' B v' (l ++ l2) := OwnS.of_row qf_len (by decide) (n := l.length + m) (by rw [List.flatMap_append]; exact k1)
    obtain ⟨a', c', rfl⟩ := ho2.form
    have e : (l ++ l2).length = N := by rw [List.length_append, hat.1]; exact hN
    rw [e] at ho2 hrun k3
    unfold Oper.wp
    simp [execOp, ho, resolve, invoke, builtin, hs, hx, hrun, Result.andThen]
    exact h a' c' w' ho2 k2 k3
  | none =>
    obtain rfl := h2 rfl
    have hl2 : l2 = [] := List.eq_nil_of_length_eq_zero hat.1
    subst hl2
    have hrun := run_append_none (P := Try.prog) w B 29 o.type 71 i0 4 c Try.underlying29 hi v l.length _ hown
    obtain ⟨a', c', rfl⟩ := hown.form
    obtain rfl : l.length = N := by simpa using hN
    unfold Oper.wp
    simp [execOp, ho, resolve, invoke, builtin, hs, hx, hrun, Result.andThen]
    exact h a' c' w (by simpa using hown) (World.grownBy.refl _ _) (Or.inl rfl)

theorem QAt.take {w : World} {a : Option Addr} {n k : Nat} {l : List Pip} (h : QAt w a n l) (hk : k ≤ n) : QAt w a k (l.take k) :=
  ⟨by have := h.1; simp; omega, fun j hj => by
    obtain ⟨b, off, h1, h2, h3⟩ := h.2 j (by omega)
    refine ⟨b, off, h1, h2, fun i hi => ?_⟩
    rw [h3 i hi, List.getElem?_take, if_pos hj]⟩
theorem QAt.drop {w : World} {g off n k : Nat} {l : List Pip} (h : QAt w (some ⟨g, off, none⟩) n l) (hk : k ≤ n) : QAt w (some ⟨g, off + k * 4, none⟩) (n - k) (l.drop k) :=
  ⟨by have := h.1; simp; omega, fun j hj => by
    obtain ⟨b, o, h1, h2, h3⟩ := h.2 (k + j) (by omega)
    cases h1
    refine ⟨g, off + k * 4, rfl, h2, fun i hi => ?_⟩
    have := h3 i hi
    rw [show off + (k + j) * 4 + i = off + k * 4 + j * 4 + i by omega] at this
    rw [this, List.getElem?_drop]⟩
theorem QAt.nil' (w : World) (a : Option Addr) {l : List Pip} (h : l.length = 0) : QAt w a 0 l := ⟨h, fun k hk => absurd hk (by omega)⟩
theorem own_capQ {w : World} {B n c : Nat} {a : Option Addr} {l : List Pip} (h : OwnQ w B (.slice a n c) l) : n ≤ c := by
  have hl := OwnS.len h
  unfold OwnQ OwnS at h
  rcases h.2 with ⟨h1, h0⟩ | ⟨g, cap, cur, h1, hB, hg, hnc, -⟩
  · simp only [Value.slice.injEq] at h1
    omega
  · simp only [Value.slice.injEq] at h1
    omega
theorem OwnS.drew' {w : World} {B : Nat} {v : Value} {l : List Pip} (h : OwnQ w B v l) : OwnQ w.drew B v l := World.ownsRow.drew h
theorem OwnS.lit0' {w : World} {b : Nat} (h : w.heap.size = b) : OwnQ (w.alloc (.cells #[] 71)) b (.slice (some ⟨b, 0, none⟩) 0 0) [] := by
  subst h
  exact OwnS.lit0 w

set_option maxRecDepth 100000 in
set_option maxHeartbeats 4000000 in
theorem s_l2Without (M : Int) (i : Nat) (a : Option Addr) (n c : Nat) (l : List Pip) (w : World) (h : QAt w a n l) (hn : n ≤ 1000) (hc : n ≤ c) (hi : i < n) :
    Calls Try.prog 36 #[.agg #[.int .i64 M, .slice a n c], .int .i64 i] w fun e w' => ∃ a' c', e = .returned (.agg #[.int .i64 M, .slice a' (n - 1) c']) ∧ OwnQ w' w.heap.size (.slice a' (n - 1) c') (l.eraseIdx i) ∧ Below w.heap.size w w' := by
  obtain ⟨g, off, rfl, -, -⟩ := QAt.get h i hi
  have HL := hid h.1
  have H := hid h
  clear h
  obtain ⟨j, hj⟩ : ∃ j, j = i + 1 := ⟨_, rfl⟩
  have k0 : (0 : Int) ≤ (i : Int) := by omega
  have k3 : (0 : Int) ≤ (j : Int) := by omega
  have hs : (i : Int) + 1 = (j : Int) := by omega
  have hw : IntKind.i64.wrap ((i : Int) + 1) = (j : Int) := by rw [IntWalk.i64_in _ (by omega)]; exact hs
  have hw2 : IntKind.i64.wrap (j : Int) = (j : Int) := IntWalk.i64_in _ (by omega)
  have HJ := hid hj
  have hij : i < j := by omega
  have hjn : j ≤ n := by omega
  clear hj
  by_cases kc : c = j
  · obtain rfl : n = j := by omega
    subst kc
    have k1 : (i : Int) ≤ (c : Int) := by omega
    have k2 : ¬ c = i := by omega
    have k6 : ¬ c = 0 := by omega
    have HD := hid (show ∀ wx, Below w.heap.size w wx → QAt wx (some ⟨g, off, none⟩) 0 (l.drop c) from fun wx hb => QAt.nil' _ _ (by have := HL.out; simp; omega))
    go_enter Try.func36, Try.ntmps36
    go_upto_region 1 with fail
    have BA0 : Below w.heap.size w ((w.alloc (.cells #[.int .i64 M, .slice (some ⟨g, off, none⟩) (c) (c)] 31)).alloc (.cells #[.int .i64 0, .slice none 0 0] 31)) := by go_grown
    have ZA0 : ((w.alloc (.cells #[.int .i64 M, .slice (some ⟨g, off, none⟩) (c) (c)] 31)).alloc (.cells #[.int .i64 0, .slice none 0 0] 31)).heap.size = w.heap.size + 2 := by simp
    have TB0 : ((w.alloc (.cells #[.int .i64 M, .slice (some ⟨g, off, none⟩) (c) (c)] 31)).alloc (.cells #[.int .i64 0, .slice none 0 0] 31)).heap[w.heap.size + 1]? = some (.cells #[.int .i64 0, .slice none 0 0] 31 (0, 0)) := last_new _ _ _ (by simp)
    have TA0 : ((w.alloc (.cells #[.int .i64 M, .slice (some ⟨g, off, none⟩) (c) (c)] 31)).alloc (.cells #[.int .i64 0, .slice none 0 0] 31)).heap[w.heap.size]? = some (.cells #[.int .i64 M, .slice (some ⟨g, off, none⟩) (c) (c)] 31 (0, 0)) := mid_new _ _ _ _ rfl
    generalize (w.alloc (.cells #[.int .i64 M, .slice (some ⟨g, off, none⟩) (c) (c)] 31)).alloc (.cells #[.int .i64 0, .slice none 0 0] 31) = wA at *
    have BA := hid BA0
    have ZA := hid ZA0
    have TA := hid TA0
    have TB := hid TB0
    have KA := hid (show ∀ wx, Below wA.heap.size wA wx → (wx.cell? ⟨w.heap.size, 0, none⟩ = some (.int .i64 M) ∧ wx.cell? ⟨w.heap.size, 1, none⟩ = some (.slice (some ⟨g, off, none⟩) (c) (c))) from fun wx hb => ⟨by rw [hb.cell (p := ⟨w.heap.size, 0, none⟩) (by show w.heap.size < _; omega), cell_of_row wA _ _ _ _ (0, 0) TA0]; rfl, by rw [hb.cell (p := ⟨w.heap.size, 1, none⟩) (by show w.heap.size < _; omega), cell_of_row wA _ _ _ _ (0, 0) TA0]; rfl⟩)
    have n0 : wA.cell? ⟨w.heap.size, 0, none⟩ = some (.int .i64 M) := by rw [cell_of_row wA _ _ _ _ (0, 0) TA0]; rfl
    have n1 : wA.cell? ⟨w.heap.size, 1, none⟩ = some (.slice (some ⟨g, off, none⟩) (c) (c)) := by rw [cell_of_row wA _ _ _ _ (0, 0) TA0]; rfl
    have hzA : w.heap.size < wA.heap.size := by omega
    clear BA0 ZA0 TA0 TB0
    go_region_held3 (fun w' => (w'.cell? ⟨w.heap.size, 0, none⟩ = some (.int .i64 M) ∧ w'.cell? ⟨w.heap.size, 1, none⟩ = some (.slice (some ⟨g, off, none⟩) (c) (c)))) (first | go_keep | exact KA.out _ (by first | assumption | go_grown))
      (first | (refine step_append_q (by rfl) _ _ (by rfl) (wA.heap.size) _ [] (by rfl) (by exact ((OwnS.lit0' rfl).drew')) _ i _ (l.take i) (by rfl) (by exact QAt.take (H.out.below (bstep BA.out (by go_grown))) (by omega)) i (by simp) (by omega) (by simp) ?_; intro a4 c4 w4 h4 g4 b4; have hb4 : Below wA.heap.size wA w4 := Below.grown (by go_grown) g4 (by simp <;> omega) (fun q hq => by cases hq; exact Nat.le_refl _)) | (refine step_append_q (by rfl) _ _ (by rfl) (wA.heap.size) _ ([] ++ l.take i) (by rfl) h4 _ (0) _ (l.drop (c)) (by rfl) (HD.out w4 (bstep BA.out hb4)) (c - 1) (by have := HL.out; simp <;> omega) (by omega) (by exact hb4.size) ?_; intro a11 c11 w11 h11 g11 b11; have hb11 : Below wA.heap.size wA w11 := hb4.grown g11 hb4.size (fun q hq => (h4.lt q hq).1); have y0 : w11.cell? ⟨w.heap.size + 1, 0, none⟩ = some (.int .i64 0) := (by rw [hb11.cell (p := ⟨w.heap.size + 1, 0, none⟩) (by show w.heap.size + 1 < _; have := ZA.out; omega), cell_of_row wA _ _ _ _ (0, 0) TB.out] <;> rfl); have y1 : w11.cell? ⟨w.heap.size + 1, 1, none⟩ = some (.slice none 0 0) := (by rw [hb11.cell (p := ⟨w.heap.size + 1, 1, none⟩) (by show w.heap.size + 1 < _; have := ZA.out; omega), cell_of_row wA _ _ _ _ (0, 0) TB.out] <;> rfl); have f0 : w11.frozen? ⟨w.heap.size + 1, 0, none⟩ = false := (hb11.frozen (p := ⟨w.heap.size + 1, 0, none⟩) (by show w.heap.size + 1 < _; have := ZA.out; omega)).trans (frozen_of_row wA _ 0 _ _ TB.out); have f1 : w11.frozen? ⟨w.heap.size + 1, 1, none⟩ = false := (hb11.frozen (p := ⟨w.heap.size + 1, 1, none⟩) (by show w.heap.size + 1 < _; have := ZA.out; omega)).trans (frozen_of_row wA _ 1 _ _ TB.out); have z1 : w.heap.size + 1 < w11.heap.size := (by have := hb11.size; have := ZA.out; omega)))
    have TR : w11.heap[w.heap.size + 1]? = some (.cells #[.int .i64 0, .slice none 0 0] 31 (0, 0)) := (hb11.block (w.heap.size + 1) (by have := ZA.out; omega)).trans TB.out
    have e7 := heap_setCell_same _ _ 1 _ _ (.slice a11 (c - 1) c11) (heap_setCell_same _ _ 0 _ _ (.int .i64 M) TR)
    have u0 := cell_of_row _ _ 0 _ _ (0, 0) e7
    have u1 := cell_of_row _ _ 1 _ _ (0, 0) e7
    simp only [List.setIfInBounds_toArray, List.set_cons_zero, List.set_cons_succ, List.getElem?_toArray, List.getElem?_cons_zero, List.getElem?_cons_succ] at u0 u1
    have HE := hid (show [] ++ l.take i ++ l.drop (c) = l.eraseIdx i by rw [List.eraseIdx_eq_take_drop_succ, ← HJ.out]; rfl)
    rw [HE.out] at h11
    have HO := hid h11
    have HB := hid hb11
    clear g4 b4 b11 g11 y0 y1 f0 f1 e7 TR h4 hb4 h11 hb11
    go_wp2
    refine bodyPost_ret (v := .agg #[.int .i64 M, .slice a11 (c - 1) c11]) (by simp [results, Try.results36, go_sem, *]) rfl ⟨_, _, rfl, ?_, ?_⟩
    · exact ((HO.out.far (by have := ZA.out; omega)).far (by have := ZA.out; omega)).mono (by have := ZA.out; omega)
    · exact ((bstep BA.out HB.out).setCell (by show w.heap.size ≤ w.heap.size + 1; omega) _).setCell (by show w.heap.size ≤ w.heap.size + 1; omega) _
  · have k1 : (i : Int) ≤ (c : Int) := by omega
    have k2 : ¬ c = i := by omega
    have k4 : (j : Int) ≤ (n : Int) := by omega
    have k5 : (n : Int) ≤ (c : Int) := by omega
    have k6 : ¬ c = 0 := by omega
    have HD := hid (show ∀ wx, Below w.heap.size w wx → QAt wx (some ⟨g, off + j * 4, none⟩) (n - j) (l.drop j) from fun wx hb => QAt.drop (H.out.below hb) (by omega))
    go_enter Try.func36, Try.ntmps36
    go_upto_region 1 with fail
    have BA0 : Below w.heap.size w ((w.alloc (.cells #[.int .i64 M, .slice (some ⟨g, off, none⟩) (n) (c)] 31)).alloc (.cells #[.int .i64 0, .slice none 0 0] 31)) := by go_grown
    have ZA0 : ((w.alloc (.cells #[.int .i64 M, .slice (some ⟨g, off, none⟩) (n) (c)] 31)).alloc (.cells #[.int .i64 0, .slice none 0 0] 31)).heap.size = w.heap.size + 2 := by simp
    have TB0 : ((w.alloc (.cells #[.int .i64 M, .slice (some ⟨g, off, none⟩) (n) (c)] 31)).alloc (.cells #[.int .i64 0, .slice none 0 0] 31)).heap[w.heap.size + 1]? = some (.cells #[.int .i64 0, .slice none 0 0] 31 (0, 0)) := last_new _ _ _ (by simp)
    have TA0 : ((w.alloc (.cells #[.int .i64 M, .slice (some ⟨g, off, none⟩) (n) (c)] 31)).alloc (.cells #[.int .i64 0, .slice none 0 0] 31)).heap[w.heap.size]? = some (.cells #[.int .i64 M, .slice (some ⟨g, off, none⟩) (n) (c)] 31 (0, 0)) := mid_new _ _ _ _ rfl
    generalize (w.alloc (.cells #[.int .i64 M, .slice (some ⟨g, off, none⟩) (n) (c)] 31)).alloc (.cells #[.int .i64 0, .slice none 0 0] 31) = wA at *
    have BA := hid BA0
    have ZA := hid ZA0
    have TA := hid TA0
    have TB := hid TB0
    have KA := hid (show ∀ wx, Below wA.heap.size wA wx → (wx.cell? ⟨w.heap.size, 0, none⟩ = some (.int .i64 M) ∧ wx.cell? ⟨w.heap.size, 1, none⟩ = some (.slice (some ⟨g, off, none⟩) (n) (c))) from fun wx hb => ⟨by rw [hb.cell (p := ⟨w.heap.size, 0, none⟩) (by show w.heap.size < _; omega), cell_of_row wA _ _ _ _ (0, 0) TA0]; rfl, by rw [hb.cell (p := ⟨w.heap.size, 1, none⟩) (by show w.heap.size < _; omega), cell_of_row wA _ _ _ _ (0, 0) TA0]; rfl⟩)
    have n0 : wA.cell? ⟨w.heap.size, 0, none⟩ = some (.int .i64 M) := by rw [cell_of_row wA _ _ _ _ (0, 0) TA0]; rfl
    have n1 : wA.cell? ⟨w.heap.size, 1, none⟩ = some (.slice (some ⟨g, off, none⟩) (n) (c)) := by rw [cell_of_row wA _ _ _ _ (0, 0) TA0]; rfl
    have hzA : w.heap.size < wA.heap.size := by omega
    clear BA0 ZA0 TA0 TB0
    go_region_held3 (fun w' => (w'.cell? ⟨w.heap.size, 0, none⟩ = some (.int .i64 M) ∧ w'.cell? ⟨w.heap.size, 1, none⟩ = some (.slice (some ⟨g, off, none⟩) (n) (c)))) (first | go_keep | exact KA.out _ (by first | assumption | go_grown))
      (first | (refine step_append_q (by rfl) _ _ (by rfl) (wA.heap.size) _ [] (by rfl) (by exact ((OwnS.lit0' rfl).drew')) _ i _ (l.take i) (by rfl) (by exact QAt.take (H.out.below (bstep BA.out (by go_grown))) (by omega)) i (by simp) (by omega) (by simp) ?_; intro a4 c4 w4 h4 g4 b4; have hb4 : Below wA.heap.size wA w4 := Below.grown (by go_grown) g4 (by simp <;> omega) (fun q hq => by cases hq; exact Nat.le_refl _)) | (refine step_append_q (by rfl) _ _ (by rfl) (wA.heap.size) _ ([] ++ l.take i) (by rfl) h4 _ (n - j) _ (l.drop (j)) (by rfl) (HD.out w4 (bstep BA.out hb4)) (n - 1) (by have := HL.out; simp <;> omega) (by omega) (by exact hb4.size) ?_; intro a11 c11 w11 h11 g11 b11; have hb11 : Below wA.heap.size wA w11 := hb4.grown g11 hb4.size (fun q hq => (h4.lt q hq).1); have y0 : w11.cell? ⟨w.heap.size + 1, 0, none⟩ = some (.int .i64 0) := (by rw [hb11.cell (p := ⟨w.heap.size + 1, 0, none⟩) (by show w.heap.size + 1 < _; have := ZA.out; omega), cell_of_row wA _ _ _ _ (0, 0) TB.out] <;> rfl); have y1 : w11.cell? ⟨w.heap.size + 1, 1, none⟩ = some (.slice none 0 0) := (by rw [hb11.cell (p := ⟨w.heap.size + 1, 1, none⟩) (by show w.heap.size + 1 < _; have := ZA.out; omega), cell_of_row wA _ _ _ _ (0, 0) TB.out] <;> rfl); have f0 : w11.frozen? ⟨w.heap.size + 1, 0, none⟩ = false := (hb11.frozen (p := ⟨w.heap.size + 1, 0, none⟩) (by show w.heap.size + 1 < _; have := ZA.out; omega)).trans (frozen_of_row wA _ 0 _ _ TB.out); have f1 : w11.frozen? ⟨w.heap.size + 1, 1, none⟩ = false := (hb11.frozen (p := ⟨w.heap.size + 1, 1, none⟩) (by show w.heap.size + 1 < _; have := ZA.out; omega)).trans (frozen_of_row wA _ 1 _ _ TB.out); have z1 : w.heap.size + 1 < w11.heap.size := (by have := hb11.size; have := ZA.out; omega)))
    have TR : w11.heap[w.heap.size + 1]? = some (.cells #[.int .i64 0, .slice none 0 0] 31 (0, 0)) := (hb11.block (w.heap.size + 1) (by have := ZA.out; omega)).trans TB.out
    have e7 := heap_setCell_same _ _ 1 _ _ (.slice a11 (n - 1) c11) (heap_setCell_same _ _ 0 _ _ (.int .i64 M) TR)
    have u0 := cell_of_row _ _ 0 _ _ (0, 0) e7
    have u1 := cell_of_row _ _ 1 _ _ (0, 0) e7
    simp only [List.setIfInBounds_toArray, List.set_cons_zero, List.set_cons_succ, List.getElem?_toArray, List.getElem?_cons_zero, List.getElem?_cons_succ] at u0 u1
    have HE := hid (show [] ++ l.take i ++ l.drop (j) = l.eraseIdx i by rw [List.eraseIdx_eq_take_drop_succ, ← HJ.out]; rfl)
    rw [HE.out] at h11
    have HO := hid h11
    have HB := hid hb11
    clear g4 b4 b11 g11 y0 y1 f0 f1 e7 TR h4 hb4 h11 hb11
    go_wp2
    refine bodyPost_ret (v := .agg #[.int .i64 M, .slice a11 (n - 1) c11]) (by simp [results, Try.results36, go_sem, *]) rfl ⟨_, _, rfl, ?_, ?_⟩
    · exact ((HO.out.far (by have := ZA.out; omega)).far (by have := ZA.out; omega)).mono (by have := ZA.out; omega)
    · exact ((bstep BA.out HB.out).setCell (by show w.heap.size ≤ w.heap.size + 1; omega) _).setCell (by show w.heap.size ≤ w.heap.size + 1; omega) _

end Go.Proofs.Ytikjighlnpdgiaa

/-
  The nodes of a network that are not connected with a node without a pipe: in the reference and in the program.
-/
set_option linter.unusedVariables false
set_option linter.unusedSimpArgs false
namespace Go.Proofs.Ytikjighlnpdgiaa
open Go.RowKit

/-- The first nodes, from 1 on, at which a row is negative. -/
def neg (L : List Int) (k : Nat) : List Int := ((List.range k).filter fun v => decide (0 < v) && decide (L[v]?.getD 0 < 0)).map fun v : Nat => (v : Int)
theorem neg_yes {L : List Int} {k : Nat} (h0 : 0 < k) (h : L[k]?.getD 0 < 0) : neg L (k + 1) = neg L k ++ [(k : Int)] := by simp [neg, List.range_succ, h, h0]
theorem neg_no {L : List Int} {k : Nat} (h : ¬ (0 < k ∧ L[k]?.getD 0 < 0)) : neg L (k + 1) = neg L k := by
  have : (decide (0 < k) && decide (L[k]?.getD 0 < 0)) = false := by simpa using h
  simp [neg, List.range_succ, this]
theorem neg_len (L : List Int) (k : Nat) : (neg L k).length ≤ k := by
  unfold neg
  rw [List.length_map]
  exact Nat.le_trans (List.length_filter_le _ _) (by simp)
theorem neg_one (L : List Int) : neg L 1 = [] := by simp [neg, List.range_succ]
theorem neg_reach {M : Nat} {l : List Pip} {wo s : Int} {k : Nat} (hk : k < M) : (k : Int) + 1 ∈ reachL M l wo s ↔ ¬ (distL M l wo s)[k + 1]?.getD 0 < 0 := by
  rw [to_reached (by omega), distL_at (by omega) (by omega)]
  have e : ((k + 1 : Nat) : Int) = (k : Int) + 1 := by omega
  rw [e]
  omega

set_option maxRecDepth 100000 in
set_option maxHeartbeats 2000000 in
theorem s_l8Down (M : Nat) (s : Int) (i : Nat) (a : Option Addr) (n c : Nat) (l : List Pip) (w : World) (h : QAt w a n l) (hg : goodNet M l = true) (hc : n ≤ c) (hi : i < n) (hs : 1 ≤ s ∧ s ≤ M) :
    Calls Try.prog 78 #[.agg #[.int .i64 M, .slice a n c], .int .i64 s, .int .i64 i] w fun e w' => ∃ a' c', e = .returned (.slice a' (neg (distL M l (pp l i).1 s) (M + 1)).length c') ∧ OwnI w' w.heap.size (.slice a' (neg (distL M l (pp l i).1 s) (M + 1)).length c') (neg (distL M l (pp l i).1 s) (M + 1)) ∧ Below w.heap.size w w' := by
  have hM : M ≤ 8 := by have := (goodNet_get hg).1; omega
  have hn : n ≤ 10 := by have := (goodNet_get hg).2.1; have := h.1; omega
  have hl := h.1
  obtain ⟨D, hD⟩ : ∃ D, distL M l (pp l i).1 s = D := ⟨_, rfl⟩
  obtain ⟨R, hR⟩ : ∃ R, reachL M (l.eraseIdx i) 0 s = R := ⟨_, rfl⟩
  have HR := hid hR
  have HM := hid (show ∀ k, k < M → ((k : Int) + 1 ∈ R ↔ ¬ D[k + 1]?.getD 0 < 0) from fun k hk => by
    rw [← hR, ← hD, reach_without hg (by omega)]
    exact neg_reach hk)
  rw [hD]
  have hrl : R.length ≤ 8 := by
    rw [← hR]
    have := reachL_len (N := (M : Int)) (l := l.eraseIdx i) (wo := 0) (s := s)
    omega
  have HG2 := hid (goodNet_sub (List.eraseIdx_sublist l i) hg)
  have H := hid h
  have HS := hid hs
  clear h hg hD hR hl hs
  go_enter Try.func78, Try.ntmps78
  go_wp2_with fail
  refine (s_l2Without M i _ _ _ l _ (H.out.below (by go_grown)) (by omega) hc hi).mono ?_
  rintro e w1 ⟨a1, c1, rfl, ho1, hb1⟩
  have HB1 := hid (bstep (by go_grown) hb1 : Below w.heap.size w w1)
  have n0 : w1.cell? ⟨w.heap.size, 0, none⟩ = some (.int .i64 M) := by rw [hb1.cell (p := ⟨w.heap.size, 0, none⟩) (by simp)]; rw [cell_of_row _ _ _ _ _ (0, 0) (heap_alloc_new _ _)]; rfl
  have HO1 := hid ho1
  clear hb1 ho1
  have hz1 : w.heap.size < w1.heap.size := World.block_lt_of_cell? w1 _ n0
  go_wp2_with fail
  refine (s_l2Reached M s _ _ _ (l.eraseIdx i) _ ((OwnS.at qf_len HO1.out).below (by go_grown)) HG2.out HS.out).mono ?_
  rintro e w2 ⟨g2, c2, rfl, ho2, hb2⟩
  rw [HR.out] at ho2 ⊢
  have HB2 := hid (bstep HB1.out hb2 : Below w.heap.size w w2)
  have N2 := hid ((hb2.cell (p := ⟨w.heap.size, 0, none⟩) hz1).trans n0)
  have hlt2 := (ho2.lt g2 rfl)
  have HO2 := hid ho2
  clear n0 ho2 hb2
  have n0 := N2.out
  have hz2 : w.heap.size < w2.heap.size := World.block_lt_of_cell? w2 _ n0
  have HO := hid (show OwnI (w2.alloc (.cells #[] 3)) w2.heap.size (.slice (some ⟨w2.heap.size, 0, none⟩) (neg D 1).length 0) (neg D 1) from by
    rw [neg_one]
    exact OwnI.lit0 w2)
  go_wp2
  go_loopg [8, 9] M (fun g o i wr => ∃ (k : Nat) (a' : Option Addr) (c' : Nat), k ≤ M ∧ g = M - k ∧ i = .int .i64 ((k : Int) + 1) ∧ o = .slice a' (neg D (k + 1)).length c' ∧ Hid (OwnI wr w2.heap.size (.slice a' (neg D (k + 1)).length c') (neg D (k + 1)) ∧ IntsAt wr (some ⟨g2, 0, none⟩) R.length R ∧ Below w2.heap.size w2 wr))
  case atStart => exact ⟨0, some ⟨w2.heap.size, 0, none⟩, 0, Nat.zero_le _, rfl, rfl, by rw [neg_one]; rfl, hid ⟨HO.out, HO2.out.at.below (by go_grown), by go_grown⟩⟩
  case round =>
    obtain ⟨k, a', c', hk, rfl, rfl, rfl, hh⟩ := hrel
    have hlen := neg_len D (k + 1)
    have n1 : wr.cell? ⟨w.heap.size, 0, none⟩ = some (.int .i64 M) := (hh.out.2.2.cell (p := ⟨w.heap.size, 0, none⟩) hz2).trans n0
    by_cases hlt : k < M
    · have hkm : (k : Int) + 1 ≤ (M : Int) := by omega
      by_cases hp : D[k + 1]?.getD 0 < 0
      · have E := hid (neg_yes (k := k + 1) (by omega) hp)
        have F := hid (show decide ((k : Int) + 1 ∈ R) = false by simp; exact fun h => by have := (HM.out k hlt).1 h; omega)
        clear hp
        go_wp2_with fail
        refine (s_l1Has_is _ _ _ _ R _ hh.out.2.1 (by omega) false F.out).mono ?_
        rintro e _ ⟨rfl, rfl⟩
        go_wp2_with (at_builtin; refine wp_append_ints _ rfl _ _ rfl w2.heap.size _ (neg D (k + 1)) rfl (hh.out.1.alloc _) _ 1 1 [(k : Int) + 1] rfl (IntsAt.single _ _) ((neg D (k + 1)).length + 1) (by simp) (by omega) (by have := hh.out.2.2.size; simp; omega) ?_)
        intro a2 c2 w3 hown hgrow hblk
        have e9 : ((k + 1 : Nat) : Int) = (k : Int) + 1 := by omega
        rw [e9] at E
        have hl2 : (neg D (k + 1)).length + 1 = (neg D (k + 1 + 1)).length := by rw [E.out]; simp
        rw [hl2] at hown hblk ⊢
        have S2 := hid (show OwnI w3 w2.heap.size (.slice a2 (neg D (k + 1 + 1)).length c2) (neg D (k + 1 + 1)) ∧ IntsAt w3 (some ⟨g2, 0, none⟩) R.length R ∧ Below w2.heap.size w2 w3 from by
          have hb3 : Below w2.heap.size w2 w3 := (bstep hh.out.2.2 (by go_grown)).grown hgrow (by have := hh.out.2.2.size; simp; omega) (fun q hq => (hh.out.1.lt q hq).1)
          exact ⟨by rw [E.out] at hown ⊢; exact hown, HO2.out.at.below hb3, hb3⟩)
        clear hown hgrow hblk hl2 n1
        go_wp2
        go_roundg (M - (k + 1))
        case rel => exact ⟨k + 1, _, _, by omega, rfl, by go_num, rfl, S2⟩
        case measure => omega
      · have E := hid (neg_no (L := D) (k := k + 1) (fun h => hp h.2))
        have F := hid (show decide ((k : Int) + 1 ∈ R) = true by simp; exact (HM.out k hlt).2 (by omega))
        clear hp
        go_wp2_with fail
        refine (s_l1Has_is _ _ _ _ R _ hh.out.2.1 (by omega) true F.out).mono ?_
        rintro e _ ⟨rfl, rfl⟩
        go_wp2
        go_roundg (M - (k + 1))
        case rel => exact ⟨k + 1, a', c', by omega, rfl, by go_num, by rw [E.out], hid (by rw [E.out]; exact hh.out)⟩
        case measure => omega
    · obtain rfl : k = M := by omega
      go_wp2
      go_ret
      exact ⟨_, _, rfl, hh.out.1.mono HB2.out.size, bstep HB2.out hh.out.2.2⟩

end Go.Proofs.Ytikjighlnpdgiaa

/-
  Trees, in plain lists: no more nodes are reached than there are pipes and one; without a pipe one of its ends is not reached; flows.
-/
set_option linter.unusedVariables false
set_option linter.unusedSimpArgs false
namespace Go.Proofs.Ytikjighlnpdgiaa
open Go.RowKit

theorem nodup_len : ∀ (n : Nat) (A : List Nat), A.Nodup → (∀ x ∈ A, x < n) → A.length ≤ n
  | 0, A, _, h => by
    cases A with
    | nil => simp
    | cons x r => have := h x (by simp); omega
  | n + 1, A, hA, h => by
    by_cases hn : n ∈ A
    · have := nodup_len n (A.erase n) (hA.erase n) (fun x hx => by
        rw [hA.mem_erase_iff] at hx
        have := h x hx.2
        omega)
      have := List.length_erase_of_mem hn
      omega
    · have := nodup_len n A hA (fun x hx => by
        have := h x hx
        have : x ≠ n := fun e => hn (e ▸ hx)
        omega)
      omega
theorem inj_len {A : List Int} {n : Nat} (hA : A.Nodup) (g : Int → Nat) (hg : ∀ x ∈ A, g x < n) (hi : ∀ x ∈ A, ∀ y ∈ A, g x = g y → x = y) : A.length ≤ n := by
  have := nodup_len n (A.map g) (by
    unfold List.Nodup
    rw [List.pairwise_map]
    refine List.Pairwise.imp_of_mem ?_ hA
    intro x y hx hy hne e
    exact hne (hi x hx y hy e)) (fun z hz => by
      obtain ⟨x, hx, rfl⟩ := List.mem_map.1 hz
      exact hg x hx)
  simpa using this
theorem asc_nodup {l : List Int} (h : Asc l) : l.Nodup := List.Pairwise.imp (fun h => by omega) h

theorem oth_ends {p : Pip} {u v : Int} (h : oth p u = v) (hv : 0 < v) : (u = p.2.1 ∧ v = p.2.2.1) ∨ (u = p.2.2.1 ∧ v = p.2.1) := by
  unfold oth at h
  split at h
  · left; exact ⟨by assumption, h.symm⟩
  · split at h
    · right; exact ⟨by assumption, h.symm⟩
    · omega
/-- A pipe leads to a node from one that is nearer by one. -/
def BackK (l : List Pip) (wo s v : Int) (k : Nat) : Prop := k < l.length ∧ (pp l k).1 ≠ wo ∧ ∃ u, oth (pp l k) u = v ∧ 0 < v ∧ far l wo s u = far l wo s v - 1
theorem backK_inj {l : List Pip} {wo s x y : Int} {k : Nat} (hx : BackK l wo s x k) (hy : BackK l wo s y k) : x = y := by
  obtain ⟨-, -, u, h1, h2, h3⟩ := hx
  obtain ⟨-, -, v, h4, h5, h6⟩ := hy
  rcases oth_ends h1 h2 with ⟨a, b⟩ | ⟨a, b⟩ <;> rcases oth_ends h4 h5 with ⟨c, d⟩ | ⟨c, d⟩
  · omega
  · rw [a, b] at h3; rw [c, d] at h6; omega
  · rw [a, b] at h3; rw [c, d] at h6; omega
  · omega
theorem backK_ex {N : Int} {l : List Pip} {wo s v : Int} (hg : goodNet N l = true) (h1 : 1 ≤ v) (h2 : v ≤ N) (h : 0 < far l wo s v) : ∃ k, BackK l wo s v k := by
  obtain ⟨u, ⟨k, hk, hne, ho, hv⟩, hu⟩ := (far_is (wo := wo) (s := s) hg).back v h1 h2 h
  exact ⟨k, hk, hne, u, ho, hv, hu⟩
theorem reach_count {N : Int} {l : List Pip} {s : Int} (hg : goodNet N l = true) : (reachL N l 0 s).length ≤ l.length + 1 := by
  classical
  refine inj_len (asc_nodup (asc_nonneg _ _)) (fun v => if h : ∃ k, BackK l 0 s v k then Classical.choose h else l.length) ?_ ?_
  · intro x hx
    split
    · rename_i h
      have := (Classical.choose_spec h).1
      omega
    · omega
  · intro x hx y hy he
    obtain ⟨⟨x1, x2⟩, x3⟩ := mem_reachL.1 hx
    obtain ⟨⟨y1, y2⟩, y3⟩ := mem_reachL.1 hy
    have only := (far_is (wo := 0) (s := s) hg).only
    split at he <;> split at he
    · rename_i h h'
      have a := Classical.choose_spec h
      have b := Classical.choose_spec h'
      rw [← he] at b
      exact backK_inj a b
    · rename_i h h'
      have := (Classical.choose_spec h).1
      omega
    · rename_i h h'
      have := (Classical.choose_spec h').1
      omega
    · rename_i h h'
      have ex : x = s := only x x1 x2 (by
        apply Classical.byContradiction
        intro hn
        exact h (backK_ex hg x1 x2 (by omega)))
      have ey : y = s := only y y1 y2 (by
        apply Classical.byContradiction
        intro hn
        exact h' (backK_ex hg y1 y2 (by omega)))
      omega
theorem treeB_iff {N : Int} {l : List Pip} (hg : goodNet N l = true) : treeB N l = true ↔ (l.length : Int) = N - 1 ∧ ∀ u v : Int, 1 ≤ u → u ≤ N → 1 ≤ v → v ≤ N → Conn l u v := by
  have hN := (goodNet_get hg).1
  unfold treeB
  simp only [Bool.and_eq_true, decide_eq_true_eq]
  rw [reachL_all (by omega)]
  constructor
  · rintro ⟨h1, h2⟩
    exact ⟨h1, fun u v u1 u2 v1 v2 => (Conn.symm hg (h2 u u1 u2)).trans (h2 v v1 v2)⟩
  · rintro ⟨h1, h2⟩
    exact ⟨h1, fun v v1 v2 => h2 1 v (by omega) (by omega) v1 v2⟩
/-- Where all are connected, and no way is cut by a pipe left out, all are connected without it. -/
theorem all_without {N : Int} {l : List Pip} {s : Int} {i : Nat} (hg : goodNet N l = true) (hi : i < l.length) (hs : 1 ≤ s ∧ s ≤ N) (hc : ∀ v : Int, 1 ≤ v → v ≤ N → Conn l s v)
    (he : 0 ≤ far l (pp l i).1 s (pp l i).2.1 ↔ 0 ≤ far l (pp l i).1 s (pp l i).2.2.1) (v : Int) (h1 : 1 ≤ v) (h2 : v ≤ N) : 0 ≤ far l (pp l i).1 s v := by
  have hd := far_is (wo := (pp l i).1) (s := s) hg
  refine (far_is (wo := 0) (s := s) hg).reach hg (R := fun v => 0 ≤ far l (pp l i).1 s v) (by show 0 ≤ far l (pp l i).1 s s; rw [far_self hg]; omega) ?_ (far l 0 s v).toNat v h1 h2 (by have : 0 ≤ far l 0 s v := hc v h1 h2; omega)
  rintro u x ⟨k, hk, -, ho, hx⟩ hu
  by_cases e : (pp l k).1 = (pp l i).1
  · have hki : k = i := by
      apply Classical.byContradiction
      intro hn
      by_cases h : k < i
      · have := ids_rise hg i k hi h; omega
      · have := ids_rise hg k i hk (by omega); omega
    subst hki
    rcases oth_ends ho hx with ⟨a, b⟩ | ⟨a, b⟩
    · rw [a] at hu; rw [b]; exact he.1 hu
    · rw [a] at hu; rw [b]; exact he.2 hu
  · exact (hd.step u x ⟨k, hk, e, ho, hx⟩ hu).1
/-- In a tree, without a pipe, one of its ends is reached, the other one is not. -/
theorem tree_bridge {N : Int} {l : List Pip} {s : Int} {i : Nat} (hg : goodNet N l = true) (ht : treeB N l = true) (hs : 1 ≤ s ∧ s ≤ N) (hi : i < l.length) : 0 ≤ far l (pp l i).1 s (pp l i).2.1 ↔ ¬ 0 ≤ far l (pp l i).1 s (pp l i).2.2.1 := by
  obtain ⟨h1, h2⟩ := (treeB_iff hg).1 ht
  have key : ¬ (0 ≤ far l (pp l i).1 s (pp l i).2.1 ↔ 0 ≤ far l (pp l i).1 s (pp l i).2.2.1) := by
    intro he
    have hall := all_without hg hi hs (fun v v1 v2 => h2 s v hs.1 hs.2 v1 v2) he
    have hg' := goodNet_sub (List.eraseIdx_sublist l i) hg
    have hN := (goodNet_get hg).1
    have := (reachL_all (l := l.eraseIdx i) (s := s) (N := N) (by omega)).2 (fun v v1 v2 => by
      unfold Conn
      rw [far_without hg hi]
      exact hall v v1 v2)
    have hcnt := reach_count (s := s) hg'
    rw [List.length_eraseIdx_of_lt hi] at hcnt
    omega
  constructor
  · intro a b
    exact key ⟨fun _ => b, fun _ => a⟩
  · intro a
    apply Classical.byContradiction
    intro b
    exact key ⟨fun h => absurd h b, fun h => absurd h a⟩

/-- The demands of the first nodes that are not reached. -/
def dsum (D ds : List Int) : Nat → Int
  | 0 => 0
  | k + 1 => if D[k + 1]?.getD 0 < 0 then dsum D ds k + ds[k]?.getD 0 else dsum D ds k
theorem dsum_yes {D ds : List Int} {k : Nat} (h : D[k + 1]?.getD 0 < 0) : dsum D ds (k + 1) = dsum D ds k + ds[k]?.getD 0 := by simp [dsum, h]
theorem dsum_no {D ds : List Int} {k : Nat} (h : ¬ D[k + 1]?.getD 0 < 0) : dsum D ds (k + 1) = dsum D ds k := by simp [dsum, h]
theorem dsum_fit {D ds : List Int} (h : ∀ x ∈ ds, 0 ≤ x ∧ x ≤ 1000) : ∀ k, k ≤ ds.length → 0 ≤ dsum D ds k ∧ dsum D ds k ≤ 1000 * (k : Int)
  | 0, _ => by simp [dsum]
  | k + 1, hk => by
    have ih := dsum_fit (D := D) h k (by omega)
    have hx := h _ (getD_mem ds k (by omega))
    by_cases hp : D[k + 1]?.getD 0 < 0
    · rw [dsum_yes hp]; omega
    · rw [dsum_no hp]; omega
/-- The demands of nodes. -/
def nsum (ds L : List Int) (k : Nat) : Int := ((L.take k).map fun v => ds[v.toNat - 1]?.getD 0).sum
theorem nsum_succ {ds L : List Int} {k : Nat} (h : k < L.length) : nsum ds L (k + 1) = nsum ds L k + ds[(L[k]?.getD 0).toNat - 1]?.getD 0 := by
  unfold nsum
  rw [take_succ' L k h]
  simp
theorem neg_dsum (D ds : List Int) : ∀ k, ((neg D (k + 1)).map fun v => ds[v.toNat - 1]?.getD 0).sum = dsum D ds k
  | 0 => by simp [neg_one, dsum]
  | k + 1 => by
    have ih := neg_dsum D ds k
    by_cases h : D[k + 1]?.getD 0 < 0
    · rw [neg_yes (k := k + 1) (by omega) h, List.map_append, List.sum_append, ih, dsum_yes h]
      simp
    · rw [neg_no (k := k + 1) (fun e => h e.2), ih, dsum_no h]
theorem nsum_all (D ds : List Int) (M : Nat) : nsum ds (neg D (M + 1)) (neg D (M + 1)).length = dsum D ds M := by
  unfold nsum
  rw [List.take_of_length_le (Nat.le_refl _), neg_dsum]
theorem mem_neg {D : List Int} {k : Nat} {x : Int} : x ∈ neg D k ↔ ∃ v : Nat, v < k ∧ x = v ∧ 0 < v ∧ D[v]?.getD 0 < 0 := by
  unfold neg
  simp only [List.mem_map, List.mem_filter, List.mem_range, Bool.and_eq_true, decide_eq_true_eq]
  constructor
  · rintro ⟨v, ⟨h1, h2, h3⟩, rfl⟩; exact ⟨v, h1, rfl, h2, h3⟩
  · rintro ⟨v, h1, rfl, h2, h3⟩; exact ⟨v, ⟨h1, h2, h3⟩, rfl⟩
theorem nsum_fit {ds L : List Int} (h : ∀ x ∈ ds, 0 ≤ x ∧ x ≤ 1000) : ∀ k, k ≤ L.length → (0 ≤ nsum ds L k ∧ nsum ds L k ≤ 1000 * (k : Int))
  | 0, _ => by simp [nsum]
  | k + 1, hk => by
    have ih := nsum_fit (ds := ds) (L := L) h k (by omega)
    rw [nsum_succ (by omega)]
    by_cases hl : (L[k]?.getD 0).toNat - 1 < ds.length
    · have hx := h _ (getD_mem ds _ hl)
      omega
    · rw [List.getElem?_eq_none (by omega)]
      simp
      omega

/-- The flow through a pipe of a tree. -/
noncomputable def tflow (M : Nat) (l : List Pip) (s : Int) (ds : List Int) (i : Nat) : Int :=
  if (distL M l (pp l i).1 s)[(pp l i).2.2.1.toNat]?.getD 0 < 0 then dsum (distL M l (pp l i).1 s) ds M else -(dsum (distL M l (pp l i).1 s) ds M)
noncomputable def tflows (M : Nat) (l : List Pip) (s : Int) (ds : List Int) (k : Nat) : List Int := (List.range k).map (tflow M l s ds)
theorem tflows_succ (M : Nat) (l : List Pip) (s : Int) (ds : List Int) (k : Nat) : tflows M l s ds (k + 1) = tflows M l s ds k ++ [tflow M l s ds k] := by simp [tflows, List.range_succ]
theorem tflows_len (M : Nat) (l : List Pip) (s : Int) (ds : List Int) (k : Nat) : (tflows M l s ds k).length = k := by simp [tflows]
/-- In a tree the end from which a pipe leads is not reached just where the other one is. -/
theorem tree_from {M : Nat} {l : List Pip} {s : Int} {i : Nat} (hg : goodNet M l = true) (ht : treeB M l = true) (hs : 1 ≤ s ∧ s ≤ M) (hi : i < l.length) : (pp l i).2.1 ∈ neg (distL M l (pp l i).1 s) (M + 1) ↔ ¬ (distL M l (pp l i).1 s)[(pp l i).2.2.1.toNat]?.getD 0 < 0 := by
  obtain ⟨-, p1, p2, -, -⟩ := goodNet_pipe hg hi
  have hb := tree_bridge hg ht hs hi
  rw [distL_at (by omega) (by omega), show (((pp l i).2.2.1.toNat : Nat) : Int) = (pp l i).2.2.1 by omega, mem_neg]
  constructor
  · rintro ⟨v, h1, h2, h3, h4⟩
    rw [distL_at (by omega) (by omega), ← h2] at h4
    apply Classical.byContradiction
    intro h5
    have h6 : far l (pp l i).1 s (pp l i).2.2.1 < 0 := by omega
    have := hb.2 (by omega)
    omega
  · intro h
    refine ⟨(pp l i).2.1.toNat, by omega, by omega, by omega, ?_⟩
    rw [distL_at (by omega) (by omega), show (((pp l i).2.1.toNat : Nat) : Int) = (pp l i).2.1 by omega]
    apply Classical.byContradiction
    intro h5
    exact hb.1 (by omega) (by omega)

end Go.Proofs.Ytikjighlnpdgiaa

/-
  What slices.IndexFunc and slices.ContainsFunc do over a test that only reads.
-/
set_option linter.unusedVariables false
namespace Go.Proofs.Ytikjighlnpdgiaa
open Go.RowKit

def enters (F : Nat) : Prop := ∀ (args : Array Value) (w : World), (callFunc F args).run Try.prog w = .ok (.enter F args) w

/-- The first index at which a test says yes, -1 if there is none. -/
def indexFn (p : Int → Bool) (l : List Int) : Int := match l.findIdx? p with | some i => (i : Int) | none => -1

theorem indexFn_hit (p : Int → Bool) (l : List Int) (k : Nat) (hk : k < l.length) (hp : p (l[k]?.getD 0) = true) (hm : ∀ j, j < k → p (l[j]?.getD 0) = false) : indexFn p l = k := by
  unfold indexFn
  have : l.findIdx? p = some k := by
    rw [List.findIdx?_eq_some_iff_getElem]
    refine ⟨hk, by rw [List.getElem?_eq_getElem hk] at hp; exact hp, fun j hj => ?_⟩
    have := hm j hj
    rw [List.getElem?_eq_getElem (by omega)] at this
    simpa using this
  rw [this]

theorem indexFn_miss (p : Int → Bool) (l : List Int) (hm : ∀ j, j < l.length → p (l[j]?.getD 0) = false) : indexFn p l = -1 := by
  unfold indexFn
  have : l.findIdx? p = none := by
    rw [List.findIdx?_eq_none_iff]
    intro x hx
    obtain ⟨j, hj, rfl⟩ := List.mem_iff_getElem.1 hx
    have := hm j hj
    rw [List.getElem?_eq_getElem hj] at this
    exact this
  rw [this]

set_option maxHeartbeats 400000 in
theorem f_IndexFunc (F : Nat) (cs : Array Value) (p : Int → Bool) (hF : enters F) (a : Option Addr) (n c : Nat) (l : List Int) (w : World) (h : IntsAt w a n l) (hn : n ≤ 4194304)
    (H : ∀ x w', x ∈ l → Below w.heap.size w w' → Calls Try.prog F (#[.int .i64 x] ++ cs) w' fun e w'' => e = .returned (.bool (p x)) ∧ Below w'.heap.size w' w'') :
    Calls Try.prog 45 #[.slice a n c, .func (.func F) #[] cs] w fun e w' => e = .returned (.int .i64 (indexFn p l)) ∧ Below w.heap.size w w' := by
  unfold enters at hF
  have HC := hid H
  have HI := hid h
  clear h H
  go_enter Try.func45, Try.ntmps45
  go_wp2
  go_loopw [5, 8] (fun j i wr => ∃ k : Nat, k ≤ n ∧ i = .int .i64 k ∧ Hid (Below w.heap.size w wr ∧ ∀ j, j < k → p (l[j]?.getD 0) = false)) (fun _ i _ => n - (intOf i).toNat)
  case atStart => exact ⟨0, Nat.zero_le _, rfl, Below.refl _ _, fun j hj => absurd hj (by omega)⟩
  case round =>
    obtain ⟨k, hk, rfl, hh⟩ := hrel
    by_cases hlt : k < n
    · obtain ⟨b, off, rfl, hbw, hcell⟩ := (HI.out.below hh.out.1).2 k hlt
      have hm : l[k]?.getD 0 ∈ l := getD_mem l k (by have := HI.out.1; omega)
      have hfun := hid (HC.out _ _ hm hh.out.1)
      clear hm
      cases hp : p (l[k]?.getD 0)
      · go_wp2_with fail
        refine hfun.out.mono ?_
        rintro e w' ⟨rfl, hb⟩
        rw [hp]
        have HP := hid hp
        have HB := hid hb
        clear hp hb
        go_wp2
        go_roundw
        case rel =>
          refine ⟨k + 1, by omega, by go_num, bstep hh.out.1 HB.out, fun j hj => ?_⟩
          by_cases e : j = k
          · subst e; exact HP.out
          · exact hh.out.2 j (by omega)
        case measure => simp [intOf]; omega
      · go_wp2_with fail
        refine hfun.out.mono ?_
        rintro e w' ⟨rfl, hb⟩
        rw [hp]
        have HP := hid hp
        have HB := hid hb
        clear hp hb
        go_wp2
        go_ret
        refine ⟨ret_int ?_, bstep hh.out.1 HB.out⟩
        rw [indexFn_hit p l k (by have := HI.out.1; omega) HP.out hh.out.2]
    · go_wp2
      go_ret
      refine ⟨ret_int ?_, hh.out.1⟩
      rw [indexFn_miss p l (fun j hj => hh.out.2 j (by have := HI.out.1; omega))]

theorem indexFn_any (p : Int → Bool) (l : List Int) : decide (0 ≤ indexFn p l) = l.any p := by
  unfold indexFn
  cases h : l.findIdx? p with
  | none => 
    rw [List.findIdx?_eq_none_iff] at h
    symm; simp; intro x hx; simpa using h x hx
  | some i =>
    have hl : i < l.length := by
      obtain ⟨h1, _⟩ := List.findIdx?_eq_some_iff_getElem.1 h
      exact h1
    have : l.any p = true := by
      rw [List.any_eq_true]
      obtain ⟨h1, h2, _⟩ := List.findIdx?_eq_some_iff_getElem.1 h
      exact ⟨l[i], List.getElem_mem h1, h2⟩
    rw [this]; simp

theorem f_ContainsFunc (F : Nat) (cs : Array Value) (p : Int → Bool) (hF : enters F) (a : Option Addr) (n c : Nat) (l : List Int) (w : World) (h : IntsAt w a n l) (hn : n ≤ 4194304)
    (H : ∀ x w', x ∈ l → Below w.heap.size w w' → Calls Try.prog F (#[.int .i64 x] ++ cs) w' fun e w'' => e = .returned (.bool (p x)) ∧ Below w'.heap.size w' w'') :
    Calls Try.prog 60 #[.slice a n c, .func (.func F) #[] cs] w fun e w' => e = .returned (.bool (l.any p)) ∧ Below w.heap.size w w' := by
  have HF := hid (f_IndexFunc F cs p hF a n c l w h hn H)
  clear hF h H
  have HP := hid (indexFn_any p l)
  go_enter Try.func60, Try.ntmps60
  go_wp2_with fail
  refine HF.out.mono ?_
  rintro e w' ⟨rfl, hb⟩
  go_wp2
  go_ret
  exact ⟨ret_bool HP.out, hb⟩

end Go.Proofs.Ytikjighlnpdgiaa

