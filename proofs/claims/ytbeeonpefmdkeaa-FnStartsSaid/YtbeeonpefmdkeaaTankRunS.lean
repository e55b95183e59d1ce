/-
  What a day makes of a tank: spec.l11Run.
-/
import Derived.Test.YtbeeonpefmdkeaaTankRun
set_option linter.unusedVariables false
set_option linter.unusedSimpArgs false
namespace Go.Proofs.Ytbeeonpefmdkeaa
open Go.RowKit

/-- Where the three slices of l11Run stand in the round. -/
structure RunRel (w wr : World) (l0 a b : Int) (v1 v2 v3 : Value) (l1 l2 l3 : List Int) : Prop where
  t4 : wr.heap[w.heap.size]? = some (.cells #[.int .i64 l0, .int .i64 a, .int .i64 b] 25 (0, 0))
  o1 : OwnI wr (w.heap.size + 1) v1 l1
  o2 : OwnI wr (w.heap.size + 1) v2 l2
  o3 : OwnI wr (w.heap.size + 1) v3 l3
  a12 : Apart v1.ownBlock v2.ownBlock
  a13 : Apart v1.ownBlock v3.ownBlock
  a23 : Apart v2.ownBlock v3.ownBlock
  below : Below w.heap.size w wr

section
variable {w wr : World} {l0 a b : Int} {v1 v2 v3 : Value} {l1 l2 l3 : List Int}
theorem RunRel.size (h : RunRel w wr l0 a b v1 v2 v3 l1 l2 l3) : w.heap.size < wr.heap.size := (Array.getElem?_eq_some_iff.1 h.t4).1
theorem RunRel.c4 (h : RunRel w wr l0 a b v1 v2 v3 l1 l2 l3) : wr.cell? ⟨w.heap.size, 0, none⟩ = some (.int .i64 l0) ∧ wr.cell? ⟨w.heap.size, 1, none⟩ = some (.int .i64 a) ∧ wr.cell? ⟨w.heap.size, 2, none⟩ = some (.int .i64 b) := by
  refine ⟨?_, ?_, ?_⟩ <;> rw [cell_of_row wr _ _ _ _ (0, 0) h.t4] <;> rfl
theorem RunRel.more {wx : World} (h : RunRel w wr l0 a b v1 v2 v3 l1 l2 l3) (hb : Below wr.heap.size wr wx) : RunRel w wx l0 a b v1 v2 v3 l1 l2 l3 := by
  have hs := h.size
  exact ⟨(hb.block _ (by omega)).trans h.t4, h.o1.below hb, h.o2.below hb, h.o3.below hb, h.a12, h.a13, h.a23, bstep h.below hb⟩
theorem RunRel.app1 {w7 : World} {o : Obj} {v' : Value} {l' : List Int} (h : RunRel w wr l0 a b v1 v2 v3 l1 l2 l3) (hg : (wr.alloc o).grownBy w7 v1.ownBlock) (ho : OwnI w7 (w.heap.size + 1) v' l')
    (hblk : v'.ownBlock = v1.ownBlock ∨ v'.ownBlock = some (wr.alloc o).heap.size) : RunRel w w7 l0 a b v' v2 v3 l' l2 l3 := by
  have hs := h.size
  have hoth : ∀ {v : Value} {l : List Int}, OwnI wr (w.heap.size + 1) v l → Apart v.ownBlock v1.ownBlock → OwnI w7 (w.heap.size + 1) v l := fun {v l} h' hap => (h'.alloc o).kept hg hap
  refine ⟨?_, ho, hoth h.o2 (h.a12.symm), hoth h.o3 (h.a13.symm), (h.a12.next hblk (fun g hg => by have := (h.o2.lt g hg).2; simp; omega)), (h.a13.next hblk (fun g hg => by have := (h.o3.lt g hg).2; simp; omega)), h.a23, ?_⟩
  · rw [hg.block _ (by simp; omega) (fun e => by have := (h.o1.lt _ e.symm).1; omega), Below.heap_alloc _ _ _ hs]; exact h.t4
  · exact (h.below.alloc (by omega) o).grown hg (by simp; omega) (fun k hk => by have := (h.o1.lt k hk).1; omega)
theorem RunRel.app2 {w7 : World} {o : Obj} {v' : Value} {l' : List Int} (h : RunRel w wr l0 a b v1 v2 v3 l1 l2 l3) (hg : (wr.alloc o).grownBy w7 v2.ownBlock) (ho : OwnI w7 (w.heap.size + 1) v' l')
    (hblk : v'.ownBlock = v2.ownBlock ∨ v'.ownBlock = some (wr.alloc o).heap.size) : RunRel w w7 l0 a b v1 v' v3 l1 l' l3 := by
  have hs := h.size
  have hoth : ∀ {v : Value} {l : List Int}, OwnI wr (w.heap.size + 1) v l → Apart v.ownBlock v2.ownBlock → OwnI w7 (w.heap.size + 1) v l := fun {v l} h' hap => (h'.alloc o).kept hg hap
  refine ⟨?_, hoth h.o1 (h.a12), ho, hoth h.o3 (h.a23.symm), (h.a12.symm.next hblk (fun g hg => by have := (h.o1.lt g hg).2; simp; omega)).symm, h.a13, (h.a23.next hblk (fun g hg => by have := (h.o3.lt g hg).2; simp; omega)), ?_⟩
  · rw [hg.block _ (by simp; omega) (fun e => by have := (h.o2.lt _ e.symm).1; omega), Below.heap_alloc _ _ _ hs]; exact h.t4
  · exact (h.below.alloc (by omega) o).grown hg (by simp; omega) (fun k hk => by have := (h.o2.lt k hk).1; omega)
theorem RunRel.app3 {w7 : World} {o : Obj} {v' : Value} {l' : List Int} (h : RunRel w wr l0 a b v1 v2 v3 l1 l2 l3) (hg : (wr.alloc o).grownBy w7 v3.ownBlock) (ho : OwnI w7 (w.heap.size + 1) v' l')
    (hblk : v'.ownBlock = v3.ownBlock ∨ v'.ownBlock = some (wr.alloc o).heap.size) : RunRel w w7 l0 a b v1 v2 v' l1 l2 l' := by
  have hs := h.size
  have hoth : ∀ {v : Value} {l : List Int}, OwnI wr (w.heap.size + 1) v l → Apart v.ownBlock v3.ownBlock → OwnI w7 (w.heap.size + 1) v l := fun {v l} h' hap => (h'.alloc o).kept hg hap
  refine ⟨?_, hoth h.o1 (h.a13), hoth h.o2 (h.a23), ho, h.a12, (h.a13.symm.next hblk (fun g hg => by have := (h.o1.lt g hg).2; simp; omega)).symm, (h.a23.symm.next hblk (fun g hg => by have := (h.o2.lt g hg).2; simp; omega)).symm, ?_⟩
  · rw [hg.block _ (by simp; omega) (fun e => by have := (h.o3.lt _ e.symm).1; omega), Below.heap_alloc _ _ _ hs]; exact h.t4
  · exact (h.below.alloc (by omega) o).grown hg (by simp; omega) (fun k hk => by have := (h.o3.lt k hk).1; omega)
end

theorem RunRel.start (w : World) (l0 a b : Int) : RunRel w ((((w.alloc (.cells #[.int .i64 l0, .int .i64 a, .int .i64 b] 25)).alloc (.cells #[] 3)).alloc (.cells #[] 3)).alloc (.cells #[] 3)) l0 a b (.slice (some ⟨w.heap.size + 1, 0, none⟩) 0 0) (.slice (some ⟨w.heap.size + 1 + 1, 0, none⟩) 0 0) (.slice (some ⟨w.heap.size + 1 + 1 + 1, 0, none⟩) 0 0) [] [] [] := by
  have e1 := OwnI.lit0 (w.alloc (.cells #[.int .i64 l0, .int .i64 a, .int .i64 b] 25))
  have e2 := OwnI.lit0 ((w.alloc (.cells #[.int .i64 l0, .int .i64 a, .int .i64 b] 25)).alloc (.cells #[] 3))
  have e3 := OwnI.lit0 (((w.alloc (.cells #[.int .i64 l0, .int .i64 a, .int .i64 b] 25)).alloc (.cells #[] 3)).alloc (.cells #[] 3))
  simp only [World.size_alloc] at e1 e2 e3
  refine ⟨?_, (e1.alloc _).alloc _, (e2.alloc _).mono (by omega), e3.mono (by omega), Or.inr ?_, Or.inr ?_, Or.inr ?_, ?_⟩
  · rw [Below.heap_alloc _ _ _ (by simp; omega), Below.heap_alloc _ _ _ (by simp; omega), Below.heap_alloc _ _ _ (by simp)]; exact heap_alloc_new w _
  · simp [Value.ownBlock]
  · simp [Value.ownBlock]
  · simp [Value.ownBlock]
  · exact ((((Below.refl _ _).alloc (Nat.le_refl _) _).alloc (by simp) _).alloc (by simp; omega) _).alloc (by simp; omega) _

set_option maxHeartbeats 4000000 in
theorem s_l11Run (l0 lv a b : Int) (p q : Option Addr) (n c d : Nat) (ins outs : List Int) (w : World) (h : IntsAt w p n ins) (h' : IntsAt w q n outs) (hn : n ≤ 1048576)
    (hg : goodTank lv a b = true) (h4 : ∀ x ∈ ins, 0 ≤ x ∧ x ≤ 100) (h5 : ∀ x ∈ outs, 0 ≤ x ∧ x ≤ 100) :
    Calls Try.prog 56 #[.agg #[.int .i64 l0, .int .i64 a, .int .i64 b], .int .i64 lv, .slice p n c, .slice q n d] w fun e w' =>
      ∃ a1 c1 a2 c2 a3 c3, e = .returned (.tuple #[.slice a1 n c1, .slice a2 n c2, .slice a3 n c3]) ∧ Below w.heap.size w w' ∧
        OwnI w' w.heap.size (.slice a1 n c1) (levelsOf a b lv ins outs n) ∧ OwnI w' w.heap.size (.slice a2 n c2) (spillsOf a b lv ins outs n) ∧ OwnI w' w.heap.size (.slice a3 n c3) (missOf a b lv ins outs n) := by
  have H := hid h
  have H' := hid h'
  have HG := hid hg
  have H4 := hid h4
  have H5 := hid h5
  clear h h' hg h4 h5
  go_enter Try.func56, Try.ntmps56
  go_wp2
  go_loopg [1, 11, 12, 13, 14] n (fun g sl s1 s2 s3 i wr => ∃ (k : Nat) (a1 : Option Addr) (c1 : Nat) (a2 : Option Addr) (c2 : Nat) (a3 : Option Addr) (c3 : Nat), k ≤ n ∧ g = n - k ∧ i = .int .i64 k ∧ sl = .int .i64 (lvAt a b lv ins outs k) ∧ s1 = .slice a1 k c1 ∧ s2 = .slice a2 k c2 ∧ s3 = .slice a3 k c3 ∧ Hid (RunRel w wr l0 a b (.slice a1 k c1) (.slice a2 k c2) (.slice a3 k c3) (levelsOf a b lv ins outs k) (spillsOf a b lv ins outs k) (missOf a b lv ins outs k)))
  case atStart =>
    exact ⟨0, _, 0, _, 0, _, 0, Nat.zero_le _, by omega, rfl, rfl, rfl, rfl, rfl, RunRel.start w l0 a b⟩
  case round =>
    obtain ⟨k, a1, c1, a2, c2, a3, c3, hk, rfl, rfl, rfl, rfl, rfl, rfl, hh⟩ := hrel
    by_cases hlt : k < n
    · obtain ⟨b1, off, rfl, hbw, hcell⟩ := (H.out.below hh.out.below).2 k hlt
      obtain ⟨b2, off2, rfl, hbw2, hcell2⟩ := (H'.out.below hh.out.below).2 k hlt
      obtain ⟨m0, m1, m2⟩ := hh.out.c4
      have hz := hh.out.size
      have HS := hid (fun w => s_l11Step l0 a b (lvAt a b lv ins outs k) (ins[k]?.getD 0) (outs[k]?.getD 0) w (lvAt_good HG.out H4.out H5.out (by have := H.out.1; have := H'.out.1; omega) k (by have := H.out.1; omega)) (inR_iff.2 (H4.out _ (getD_mem ins k (by have := H.out.1; omega)))) (inR_iff.2 (H5.out _ (getD_mem outs k (by have := H'.out.1; omega)))))
      go_upto_region 6 with fail
      have q0 : ∀ wy w5 : World, Below wy.heap.size wy w5 → (wy.cell? ⟨w.heap.size, 0, none⟩ = some (.int .i64 l0) ∧ wy.cell? ⟨w.heap.size, 1, none⟩ = some (.int .i64 a) ∧ wy.cell? ⟨w.heap.size, 2, none⟩ = some (.int .i64 b) ∧ wy.cell? ⟨b1, off + k, none⟩ = some (.int .i64 (ins[k]?.getD 0)) ∧ wy.cell? ⟨b2, off2 + k, none⟩ = some (.int .i64 (outs[k]?.getD 0))) → (w5.cell? ⟨w.heap.size, 0, none⟩ = some (.int .i64 l0) ∧ w5.cell? ⟨w.heap.size, 1, none⟩ = some (.int .i64 a) ∧ w5.cell? ⟨w.heap.size, 2, none⟩ = some (.int .i64 b) ∧ w5.cell? ⟨b1, off + k, none⟩ = some (.int .i64 (ins[k]?.getD 0)) ∧ w5.cell? ⟨b2, off2 + k, none⟩ = some (.int .i64 (outs[k]?.getD 0))) :=
        fun wy w5 hb ⟨x0, x1, x2, x3, x4⟩ => ⟨(hb.cell (World.block_lt_of_cell? wy _ x0)).trans x0, (hb.cell (World.block_lt_of_cell? wy _ x1)).trans x1, (hb.cell (World.block_lt_of_cell? wy _ x2)).trans x2, (hb.cell (World.block_lt_of_cell? wy _ x3)).trans x3, (hb.cell (World.block_lt_of_cell? wy _ x4)).trans x4⟩
      have Q0 := hid q0
      clear q0
      go_cut [1, 15, 16] (fun s1 s15 s16 wx => s1 = .int .i64 (lvAt a b lv ins outs (k + 1)) ∧ s15 = .int .i64 (stSpill b (lvAt a b lv ins outs k) (ins[k]?.getD 0)) ∧ s16 = .int .i64 (stMiss a b (lvAt a b lv ins outs k) (ins[k]?.getD 0) (outs[k]?.getD 0)) ∧ Hid (Below wr.heap.size wr wx))
      case first =>
        go_region_held3 (fun w' => (w'.cell? ⟨w.heap.size, 0, none⟩ = some (.int .i64 l0) ∧ w'.cell? ⟨w.heap.size, 1, none⟩ = some (.int .i64 a) ∧ w'.cell? ⟨w.heap.size, 2, none⟩ = some (.int .i64 b) ∧ w'.cell? ⟨b1, off + k, none⟩ = some (.int .i64 (ins[k]?.getD 0)) ∧ w'.cell? ⟨b2, off2 + k, none⟩ = some (.int .i64 (outs[k]?.getD 0)))) (first | go_keep | exact Q0.out _ _ (by assumption) (by first | assumption | (refine ⟨?_, ?_, ?_, ?_, ?_⟩ <;> assumption) | simp [*]))
          (first | (go_at_call 52; refine (HS.out _).mono ?_; rintro e w5 ⟨rfl, hb5⟩; obtain ⟨hc5, hf5⟩ := bcell hb5))
        all_goals (go_wp2_with fail; go_meet)
        all_goals refine ⟨rfl, rfl, rfl, ?_⟩
        all_goals exact bstep ((Below.refl _ _).drew : Below wr.heap.size wr _) (by assumption)
      case rest =>
        obtain ⟨rfl, rfl, rfl, hx⟩ := hcut
        have hP := hid (hh.out.more hx.out)
        clear hh hx HS Q0 m0 m1 m2 hz hcell hcell2 hbw hbw2
        go_wp2_with (at_builtin; refine wp_append_ints _ rfl _ _ rfl (w.heap.size + 1) _ (levelsOf a b lv ins outs k) rfl (hP.out.o1.alloc _) _ 1 1 [lvAt a b lv ins outs (k + 1)] rfl (IntsAt.single _ _) (k + 1) (by rw [levelsOf_length]) (by omega) (by have := hP.out.size; simp; omega) ?_)
        intro a1' c1' w1 hown1 hgrow1 hblk1
        have hQ := hid (hP.out.app1 hgrow1 hown1 (by simpa using hblk1))
        clear hown1 hgrow1 hblk1 hP
        go_wp2_with (at_builtin; refine wp_append_ints _ rfl _ _ rfl (w.heap.size + 1) _ (spillsOf a b lv ins outs k) rfl (hQ.out.o2.alloc _) _ 1 1 [stSpill b (lvAt a b lv ins outs k) (ins[k]?.getD 0)] rfl (IntsAt.single _ _) (k + 1) (by rw [spillsOf_length]) (by omega) (by have := hQ.out.size; simp; omega) ?_)
        intro a2' c2' w2 hown2 hgrow2 hblk2
        have hR := hid (hQ.out.app2 hgrow2 hown2 (by simpa using hblk2))
        clear hown2 hgrow2 hblk2 hQ
        go_wp2_with (at_builtin; refine wp_append_ints _ rfl _ _ rfl (w.heap.size + 1) _ (missOf a b lv ins outs k) rfl (hR.out.o3.alloc _) _ 1 1 [stMiss a b (lvAt a b lv ins outs k) (ins[k]?.getD 0) (outs[k]?.getD 0)] rfl (IntsAt.single _ _) (k + 1) (by rw [missOf_length]) (by omega) (by have := hR.out.size; simp; omega) ?_)
        intro a3' c3' w3 hown3 hgrow3 hblk3
        have hS := hid (hR.out.app3 hgrow3 hown3 (by simpa using hblk3))
        clear hown3 hgrow3 hblk3 hR
        go_wp2
        go_roundg (n - (k + 1))
        case measure => omega
        case rel =>
          refine ⟨k + 1, a1', c1', a2', c2', a3', c3', by omega, rfl, by go_num, rfl, rfl, rfl, rfl, ?_⟩
          have e := hS.out
          rw [levelsOf_succ, spillsOf_succ, missOf_succ]
          exact e
    · have hkn : k = n := by omega
      subst hkn
      go_wp2
      go_ret3
      have e := hh.out
      exact ⟨_, _, _, _, _, _, rfl, e.below, e.o1.mono (by omega), e.o2.mono (by omega), e.o3.mono (by omega)⟩

end Go.Proofs.Ytbeeonpefmdkeaa
