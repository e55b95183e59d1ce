/-
  The reference's search for the nodes that are connected with a node.
-/
import Derived.Test.YtheaagbffphdmaaPut
import Derived.Test.YtheaagbffphdmaaReachB
set_option linter.unusedVariables false
set_option linter.unusedSimpArgs false
namespace Go.Proofs.Ytheaagbffphdmaa
open Go.RowKit

theorem s_l1Has_is (a : Option Addr) (n c : Nat) (x : Int) (l : List Int) (w : World) (h : IntsAt w a n l) (hn : n ≤ 1048576) (b : Bool) (hb : decide (x ∈ l) = b) :
    Calls Try.prog 105 #[.slice a n c, .int .i64 x] w fun e w' => e = .returned (.bool b) ∧ w = w' := by
  subst hb
  exact s_l1Has a n c x l w h hn
theorem own_cap {w : World} {B n c : Nat} {a : Option Addr} {l : List Int} (h : OwnI w B (.slice a n c) l) : n ≤ c := by
  unfold OwnI at h
  have hl := OwnI.len h
  rcases h.2 with ⟨h1, h0⟩ | ⟨g, cap, cur, h1, hB, hg, hnc, -⟩
  · simp only [Value.slice.injEq] at h1
    omega
  · simp only [Value.slice.injEq] at h1
    omega

structure RIn (M n c : Nat) (a : Option Addr) (w : World) (l : List Pip) (s : Int) (m0 k : Nat) (b : Bool) (gg m c' : Nat) (R : List Int) (wr : World) : Prop where
  own : OwnI wr (w.heap.size + 1) (.slice (some ⟨gg, 0, none⟩) m c') R
  wet : Wet M l s R
  clo : (b = false ∧ m = m0 ∧ ∀ j, j < k → ((pp l j).2.1 ∈ R ↔ (pp l j).2.2.1 ∈ R)) ∨ (b = true ∧ m0 < m)
  bel : Below w.heap.size w wr
  n1 : wr.cell? ⟨w.heap.size, 1, none⟩ = some (.slice a n c)
theorem RIn.same {M n c : Nat} {a : Option Addr} {w : World} {l : List Pip} {s : Int} {m0 k : Nat} {b : Bool} {gg m c' : Nat} {R : List Int} {wr wx : World} (h : RIn M n c a w l s m0 k b gg m c' R wr) (hb : Below wr.heap.size wr wx) (he : (pp l k).2.1 ∈ R ↔ (pp l k).2.2.1 ∈ R) : RIn M n c a w l s m0 (k + 1) b gg m c' R wx :=
  ⟨h.own.below hb, h.wet, h.clo.elim (fun ⟨x, y, z⟩ => .inl ⟨x, y, fun j hj => by
    by_cases e : j = k
    · subst e; exact he
    · exact z j (by omega)⟩) .inr, bstep h.bel hb, (hb.cell (p := ⟨w.heap.size, 1, none⟩) (World.block_lt_of_cell? wr _ h.n1)).trans h.n1⟩
theorem RIn.stay {M n c : Nat} {a : Option Addr} {w : World} {l : List Pip} {s : Int} {m0 k : Nat} {b : Bool} {gg m c' : Nat} {R : List Int} {wr wx : World} (h : RIn M n c a w l s m0 k b gg m c' R wr) (hb : Below wr.heap.size wr wx) : RIn M n c a w l s m0 k b gg m c' R wx :=
  ⟨h.own.below hb, h.wet, h.clo, bstep h.bel hb, (hb.cell (p := ⟨w.heap.size, 1, none⟩) (World.block_lt_of_cell? wr _ h.n1)).trans h.n1⟩
theorem RIn.more {M n c : Nat} {a : Option Addr} {w : World} {l : List Pip} {s : Int} {m0 k : Nat} {b : Bool} {gg m c' : Nat} {R R' : List Int} {wr wx : World} (h : RIn M n c a w l s m0 k b gg m c' R wr) (hb : Below wr.heap.size wr wx) {B gg' c'' : Nat} (ho : OwnI wx B (.slice (some ⟨gg', 0, none⟩) (m + 1) c'') R') (hB : w.heap.size + 1 ≤ B) (hw : Wet M l s R') : RIn M n c a w l s m0 (k + 1) true gg' (m + 1) c'' R' wx :=
  ⟨ho.mono hB, hw, .inr ⟨rfl, by rcases h.clo with ⟨-, h, -⟩ | ⟨-, h⟩ <;> omega⟩, bstep h.bel hb, (hb.cell (p := ⟨w.heap.size, 1, none⟩) (World.block_lt_of_cell? wr _ h.n1)).trans h.n1⟩

set_option maxRecDepth 100000 in
set_option maxHeartbeats 4000000 in
theorem s_l2Reached (M : Nat) (s : Int) (a : Option Addr) (n c : Nat) (l : List Pip) (w : World) (h : QAt w a n l) (hg : goodNet M l = true) (hs : 1 ≤ s ∧ s ≤ M) :
    Calls Try.prog 88 #[.agg #[.int .i64 M, .slice a n c], .int .i64 s] w fun e w' => ∃ g c', e = .returned (.slice (some ⟨g, 0, none⟩) (reachL M l 0 s).length c') ∧ OwnI w' w.heap.size (.slice (some ⟨g, 0, none⟩) (reachL M l 0 s).length c') (reachL M l 0 s) ∧ Below w.heap.size w w' := by
  have hM : M ≤ 8 := by have := (goodNet_get hg).1; omega
  have hn : n ≤ 10 := by have := (goodNet_get hg).2.1; have := h.1; omega
  have HLN := hid h.1
  have H := hid h
  have HG := hid hg
  have HSS := hid hs
  clear h hg hs
  go_enter Try.func88, Try.ntmps88
  go_wp2
  go_loopg [5, 6] (2 * (M + 1 - 1) + 1) (fun g o i wr => ∃ (R : List Int) (gg m c' : Nat) (b : Bool), g = 2 * (M + 1 - m) + b.toNat ∧ o = .slice (some ⟨gg, 0, none⟩) m c' ∧ i = .bool b ∧ Hid (∃ m0, RIn M n c a w l s m0 n b gg m c' R wr ∨ b = true ∧ RIn M n c a w l s 0 0 b gg m c' R wr))
  case atStart =>
    have hx : RIn M n c a w l s 0 0 true (w.heap.size + 1) 1 1 [s] ((w.alloc (.cells #[.int .i64 M, .slice a n c] 31)).alloc (.cells #[.int .i64 s] 3)) := by
      refine ⟨?_, Wet.start HG.out HSS.out, .inr ⟨rfl, by omega⟩, by go_grown, ?_⟩
      · have := World.ownsRow_lit (base := w.heap.size + 1) (e := 3) (size := 1) (w.alloc (.cells #[.int .i64 M, .slice a n c] 31)) #[.int .i64 s] 1 (by simp) (by decide) rfl
        exact OwnI.of_row (n := 1) (by simpa using this)
      · rw [cell_of_row _ _ _ _ _ (0, 0) (mid_new w _ _ _ rfl)]; rfl
    exact ⟨[s], w.heap.size + 1, 1, 1, true, rfl, rfl, rfl, hid ⟨0, .inr ⟨rfl, hx⟩⟩⟩
  case round =>
    obtain ⟨R0, gg0, m0, c0, b0, rfl, rfl, rfl, hh⟩ := hrel
    cases b0
    · have hr : RIn M n c a w l s m0 n false gg0 m0 c0 R0 wr := by
        obtain ⟨m1, h1 | ⟨h1, -⟩⟩ := hh.out
        · refine ⟨h1.own, h1.wet, ?_, h1.bel, h1.n1⟩
          rcases h1.clo with ⟨x, y, z⟩ | ⟨x, y⟩
          · exact .inl ⟨x, rfl, z⟩
          · cases x
        · cases h1
      have e := hr.wet.done HG.out (by
        rcases hr.clo with ⟨-, -, z⟩ | ⟨x, -⟩
        · intro k hk
          exact z k (by have := HLN.out; omega)
        · cases x)
      have hl := hr.own.len
      subst e
      subst hl
      have HR := hid hr
      clear hr
      go_wp2
      go_ret
      exact ⟨_, _, rfl, HR.out.own.mono (by omega), HR.out.bel⟩
    · have hr : RIn M n c a w l s m0 0 false gg0 m0 c0 R0 wr := by
        obtain ⟨m1, h1 | ⟨-, h1⟩⟩ := hh.out
        · exact ⟨h1.own, h1.wet, .inl ⟨rfl, rfl, fun j hj => by omega⟩, h1.bel, h1.n1⟩
        · exact ⟨h1.own, h1.wet, .inl ⟨rfl, rfl, fun j hj => by omega⟩, h1.bel, h1.n1⟩
      have hm0 : m0 ≤ M := by
        have := hr.wet.len
        have := hr.own.len
        omega
      have HR := hid hr
      clear hr hh
      obtain ⟨W0, hW0⟩ : ∃ W, W = wr := ⟨_, rfl⟩
      subst hW0
      go_wp2
      go_loopg [5, 6, 7] n (fun g o b i wr => ∃ (R : List Int) (gg m c' k : Nat) (bb : Bool), k ≤ n ∧ g = n - k ∧ i = .int .i64 k ∧ o = .slice (some ⟨gg, 0, none⟩) m c' ∧ b = .bool bb ∧ Hid (RIn M n c a w l s m0 k bb gg m c' R wr))
      case atStart => exact ⟨R0, gg0, m0, c0, 0, false, Nat.zero_le _, rfl, rfl, rfl, rfl, HR⟩
      case round =>
        obtain ⟨R, gg, m, c', k, bb, hk, rfl, rfl, rfl, rfl, hh⟩ := hrel
        have n1 := hh.out.n1
        have hz0 : w.heap.size < wr.heap.size := World.block_lt_of_cell? wr _ n1
        have hm : m ≤ M := by
          have := hh.out.wet.len
          have := hh.out.own.len
          omega
        have hm1 : 0 < m := by
          have := hh.out.wet.pos
          have := hh.out.own.len
          omega
        have hmc := own_cap hh.out.own
        by_cases hlt : k < n
        · obtain ⟨b0, off0, rfl, hbw, x0, x1, x2, x3⟩ := QAt.get (H.out.below hh.out.bel) k hlt
          have hkl : k < l.length := by have := HLN.out; omega
          have HE := hid (pipe_edge HG.out hkl)
          clear hkl x0 x3
          obtain ⟨F, hF⟩ : ∃ F, (pp l k).2.1 = F := ⟨_, rfl⟩
          obtain ⟨T, hT⟩ : ∃ T, (pp l k).2.2.1 = T := ⟨_, rfl⟩
          rw [hF] at x1 HE
          rw [hT] at x2 HE
          have HF := hid hF
          have HT := hid hT
          clear hF hT
          by_cases fa : F ∈ R
          · by_cases fb : T ∈ R
            · have FA := hid (show decide (F ∈ R) = true by simp [fa])
              have FB := hid (show decide (T ∈ R) = true by simp [fb])
              have FE := hid (show (pp l k).2.1 ∈ R ↔ (pp l k).2.2.1 ∈ R by rw [HF.out, HT.out]; simp [fa, fb])
              clear fa fb
              go_upto_region 8 with fail
              go_quiet (first | (go_at_call 105; exact quiet_eq (s_l1Has_is _ _ _ _ R _ (hh.out.own.at.below (bdraws _)) (by omega) _ (by first | exact FA.out | exact FB.out))))
              have HH := hid (hh.out.stay (bdraws nq))
              obtain ⟨hq1, -⟩ := bcell (bdraws nq : Below wr.heap.size wr (wr.drewN nq))
              have y1 := (hq1 _ _ hbw).trans x1
              have y2 := (hq1 _ _ hbw).trans x2
              clear hh hq1 x1 x2 n1 hz0 hbw
              have n1 := HH.out.n1
              generalize wr.drewN nq = wq at HH y1 y2 n1 ⊢
              have hz0 : w.heap.size < wq.heap.size := World.block_lt_of_cell? wq _ n1
              have hbw : b0 < wq.heap.size := World.block_lt_of_cell? wq _ y1
              go_wp2
              go_roundg (n - (k + 1))
              case rel => exact ⟨R, gg, m, c', k + 1, bb, by omega, rfl, by go_num, rfl, rfl, hid (HH.out.same (Below.refl _ _) FE.out)⟩
              case measure => omega
            · have FA := hid (show decide (F ∈ R) = true by simp [fa])
              have FB := hid (show decide (T ∈ R) = false by simp [fb])
              have F1 := hid fa
              have F2 := hid fb
              clear fa fb
              go_upto_region 8 with fail
              go_quiet (first | (go_at_call 105; exact quiet_eq (s_l1Has_is _ _ _ _ R _ (hh.out.own.at.below (bdraws _)) (by omega) _ (by first | exact FA.out | exact FB.out))))
              have HH := hid (hh.out.stay (bdraws nq))
              obtain ⟨hq1, -⟩ := bcell (bdraws nq : Below wr.heap.size wr (wr.drewN nq))
              have y1 := (hq1 _ _ hbw).trans x1
              have y2 := (hq1 _ _ hbw).trans x2
              clear hh hq1 x1 x2 n1 hz0 hbw
              have n1 := HH.out.n1
              generalize wr.drewN nq = wq at HH y1 y2 n1 ⊢
              have hz0 : w.heap.size < wq.heap.size := World.block_lt_of_cell? wq _ n1
              have hbw : b0 < wq.heap.size := World.block_lt_of_cell? wq _ y1
              go_upto_region 10 with fail
              have q0 : ∀ wy w5 : World, Below wy.heap.size wy w5 → (wy.cell? ⟨w.heap.size, 1, none⟩ = some (.slice (some ⟨b0, off0, none⟩) n c) ∧ wy.cell? ⟨b0, off0 + k * 4 + 1, none⟩ = some (.int .i64 F) ∧ wy.cell? ⟨b0, off0 + k * 4 + 2, none⟩ = some (.int .i64 T)) → (w5.cell? ⟨w.heap.size, 1, none⟩ = some (.slice (some ⟨b0, off0, none⟩) n c) ∧ w5.cell? ⟨b0, off0 + k * 4 + 1, none⟩ = some (.int .i64 F) ∧ w5.cell? ⟨b0, off0 + k * 4 + 2, none⟩ = some (.int .i64 T)) :=
                fun wy w5 hb ⟨z1, z2, z3⟩ => ⟨(hb.cell (World.block_lt_of_cell? wy _ z1)).trans z1, (hb.cell (World.block_lt_of_cell? wy _ z2)).trans z2, (hb.cell (World.block_lt_of_cell? wy _ z3)).trans z3⟩
              have Q0 := hid q0
              clear q0
              go_region_held3 (fun w' => (w'.cell? ⟨w.heap.size, 1, none⟩ = some (.slice (some ⟨b0, off0, none⟩) n c) ∧ w'.cell? ⟨b0, off0 + k * 4 + 1, none⟩ = some (.int .i64 F) ∧ w'.cell? ⟨b0, off0 + k * 4 + 2, none⟩ = some (.int .i64 T))) (first | go_keep | exact Q0.out _ _ (by assumption) (by first | assumption | (refine ⟨?_, ?_, ?_⟩ <;> assumption) | simp [*]))
                ((first | (go_at_call_of 106 F; refine (s_l1Put_in gg _ _ F R _ (HH.out.own.at.below (by go_grown)) (by omega) HH.out.wet.asc F1.out).mono ?_; rintro e _ ⟨rfl, rfl⟩) | (go_at_call_of 106 T; refine (s_l1Put_new gg _ _ T R _ (HH.out.own.at.below (by go_grown)) (by omega) (by omega) (by omega) F2.out).mono ?_; rintro e w5 ⟨a5, c5, rfl, ho5, hb5⟩; obtain ⟨g5, rfl, -, -⟩ := own_some ho5 (by omega); obtain ⟨hc5, hf5⟩ := bcell hb5)))
              have HQ := hid (HH.out.more (bstep (by go_grown : Below wq.heap.size wq wq.drew) hb5) ho5 (by simp <;> omega) (HH.out.wet.put HG.out F2.out F1.out HE.out.1))
              clear hb5 ho5 HH
              go_wp2
              go_roundg (n - (k + 1))
              case rel => exact ⟨ins T R, _, _, _, k + 1, true, by omega, rfl, by go_num, rfl, rfl, HQ⟩
              case measure => omega
          · by_cases fb : T ∈ R
            · have FA := hid (show decide (F ∈ R) = false by simp [fa])
              have FB := hid (show decide (T ∈ R) = true by simp [fb])
              have F1 := hid fa
              have F2 := hid fb
              clear fa fb
              go_upto_region 8 with fail
              go_quiet (first | (go_at_call 105; exact quiet_eq (s_l1Has_is _ _ _ _ R _ (hh.out.own.at.below (bdraws _)) (by omega) _ (by first | exact FA.out | exact FB.out))))
              have HH := hid (hh.out.stay (bdraws nq))
              obtain ⟨hq1, -⟩ := bcell (bdraws nq : Below wr.heap.size wr (wr.drewN nq))
              have y1 := (hq1 _ _ hbw).trans x1
              have y2 := (hq1 _ _ hbw).trans x2
              clear hh hq1 x1 x2 n1 hz0 hbw
              have n1 := HH.out.n1
              generalize wr.drewN nq = wq at HH y1 y2 n1 ⊢
              have hz0 : w.heap.size < wq.heap.size := World.block_lt_of_cell? wq _ n1
              have hbw : b0 < wq.heap.size := World.block_lt_of_cell? wq _ y1
              go_upto_region 10 with fail
              have q0 : ∀ wy w5 : World, Below wy.heap.size wy w5 → (wy.cell? ⟨w.heap.size, 1, none⟩ = some (.slice (some ⟨b0, off0, none⟩) n c) ∧ wy.cell? ⟨b0, off0 + k * 4 + 1, none⟩ = some (.int .i64 F) ∧ wy.cell? ⟨b0, off0 + k * 4 + 2, none⟩ = some (.int .i64 T)) → (w5.cell? ⟨w.heap.size, 1, none⟩ = some (.slice (some ⟨b0, off0, none⟩) n c) ∧ w5.cell? ⟨b0, off0 + k * 4 + 1, none⟩ = some (.int .i64 F) ∧ w5.cell? ⟨b0, off0 + k * 4 + 2, none⟩ = some (.int .i64 T)) :=
                fun wy w5 hb ⟨z1, z2, z3⟩ => ⟨(hb.cell (World.block_lt_of_cell? wy _ z1)).trans z1, (hb.cell (World.block_lt_of_cell? wy _ z2)).trans z2, (hb.cell (World.block_lt_of_cell? wy _ z3)).trans z3⟩
              have Q0 := hid q0
              clear q0
              go_region_held3 (fun w' => (w'.cell? ⟨w.heap.size, 1, none⟩ = some (.slice (some ⟨b0, off0, none⟩) n c) ∧ w'.cell? ⟨b0, off0 + k * 4 + 1, none⟩ = some (.int .i64 F) ∧ w'.cell? ⟨b0, off0 + k * 4 + 2, none⟩ = some (.int .i64 T))) (first | go_keep | exact Q0.out _ _ (by assumption) (by first | assumption | (refine ⟨?_, ?_, ?_⟩ <;> assumption) | simp [*]))
                ((first | (go_at_call_of 106 F; refine (s_l1Put_new gg _ _ F R _ (HH.out.own.at.below (by go_grown)) (by omega) (by omega) (by omega) F1.out).mono ?_; rintro e w5 ⟨a5, c5, rfl, ho5, hb5⟩; obtain ⟨g5, rfl, -, -⟩ := own_some ho5 (by omega); obtain ⟨hc5, hf5⟩ := bcell hb5) | (go_at_call_of 106 T; refine (s_l1Put_in g5 _ _ T (ins F R) _ ho5.at (by omega) (asc_ins HH.out.wet.asc F1.out) (mem_ins.2 (.inr F2.out))).mono ?_; rintro e _ ⟨rfl, rfl⟩)))
              have HQ := hid (HH.out.more (bstep (by go_grown : Below wq.heap.size wq wq.drew) hb5) ho5 (by simp <;> omega) (HH.out.wet.put HG.out F1.out F2.out HE.out.2))
              clear hb5 ho5 HH
              go_wp2
              go_roundg (n - (k + 1))
              case rel => exact ⟨ins F R, _, _, _, k + 1, true, by omega, rfl, by go_num, rfl, rfl, HQ⟩
              case measure => omega
            · have FA := hid (show decide (F ∈ R) = false by simp [fa])
              have FB := hid (show decide (T ∈ R) = false by simp [fb])
              have FE := hid (show (pp l k).2.1 ∈ R ↔ (pp l k).2.2.1 ∈ R by rw [HF.out, HT.out]; simp [fa, fb])
              clear fa fb
              go_upto_region 8 with fail
              go_quiet (first | (go_at_call 105; exact quiet_eq (s_l1Has_is _ _ _ _ R _ (hh.out.own.at.below (bdraws _)) (by omega) _ (by first | exact FA.out | exact FB.out))))
              have HH := hid (hh.out.stay (bdraws nq))
              obtain ⟨hq1, -⟩ := bcell (bdraws nq : Below wr.heap.size wr (wr.drewN nq))
              have y1 := (hq1 _ _ hbw).trans x1
              have y2 := (hq1 _ _ hbw).trans x2
              clear hh hq1 x1 x2 n1 hz0 hbw
              have n1 := HH.out.n1
              generalize wr.drewN nq = wq at HH y1 y2 n1 ⊢
              have hz0 : w.heap.size < wq.heap.size := World.block_lt_of_cell? wq _ n1
              have hbw : b0 < wq.heap.size := World.block_lt_of_cell? wq _ y1
              go_wp2
              go_roundg (n - (k + 1))
              case rel => exact ⟨R, gg, m, c', k + 1, bb, by omega, rfl, by go_num, rfl, rfl, hid (HH.out.same (Below.refl _ _) FE.out)⟩
              case measure => omega
        · obtain rfl : k = n := by omega
          go_wp2
          go_roundg (2 * (M + 1 - m) + bb.toNat)
          case rel => exact ⟨R, gg, m, c', bb, rfl, rfl, rfl, hid ⟨m0, .inl hh.out⟩⟩
          case measure =>
            have := hh.out.clo
            cases bb
            · simp at this ⊢
              omega
            · simp at this ⊢
              omega

end Go.Proofs.Ytheaagbffphdmaa
