/-
  Texts of this claim, joined: Reached, NetS, TakeH, Ring.
-/
import Derived.Test.YtikjighlnpdgiaaRi1
import Derived.Test.YtikjighlnpdgiaaRi4
/-
  The reference's search for the nodes that are connected with a node.
-/
set_option linter.unusedVariables false
set_option linter.unusedSimpArgs false
namespace Go.Proofs.Ytikjighlnpdgiaa
open Go.RowKit

theorem s_l1Has_is (a : Option Addr) (n c : Nat) (x : Int) (l : List Int) (w : World) (h : IntsAt w a n l) (hn : n ≤ 1048576) (b : Bool) (hb : decide (x ∈ l) = b) :
    Calls Try.prog 75 #[.slice a n c, .int .i64 x] w fun e w' => e = .returned (.bool b) ∧ w = w' := by
  subst hb
  exact s_l1Has a n c x l w h hn
theorem own_cap {w : World} {B n c : Nat} {a : Option Addr} {l : List Int} (h : OwnI w B (.slice a n c) l) : n ≤ c := by
  unfold OwnI at h
  have hl := OwnI.len h
  rcases h.2 with ⟨h1, h0⟩ | ⟨g, cap, cur, h1, hB, hg, hnc, -⟩
  · simp only [Value.slice.injEq] at h1
    omega
  · simp only [Value.slice.injEq] at h1
    omega

structure RIn (M n c : Nat) (a : Option Addr) (w : World) (l : List Pip) (s : Int) (m0 k : Nat) (b : Bool) (gg m c' : Nat) (R : List Int) (wr : World) : Prop where
  own : OwnI wr (w.heap.size + 1) (.slice (some ⟨gg, 0, none⟩) m c') R
  wet : Wet M l s R
  clo : (b = false ∧ m = m0 ∧ ∀ j, j < k → ((pp l j).2.1 ∈ R ↔ (pp l j).2.2.1 ∈ R)) ∨ (b = true ∧ m0 < m)
  bel : Below w.heap.size w wr
  n1 : wr.cell? ⟨w.heap.size, 1, none⟩ = some (.slice a n c)
theorem RIn.same {M n c : Nat} {a : Option Addr} {w : World} {l : List Pip} {s : Int} {m0 k : Nat} {b : Bool} {gg m c' : Nat} {R : List Int} {wr wx : World} (h : RIn M n c a w l s m0 k b gg m c' R wr) (hb : Below wr.heap.size wr wx) (he : (pp l k).2.1 ∈ R ↔ (pp l k).2.2.1 ∈ R) : RIn M n c a w l s m0 (k + 1) b gg m c' R wx :=
  ⟨h.own.below hb, h.wet, h.clo.elim (fun ⟨x, y, z⟩ => .inl ⟨x, y, fun j hj => by
    by_cases e : j = k
    · subst e; exact he
    · exact z j (by omega)⟩) .inr, bstep h.bel hb, (hb.cell (p := ⟨w.heap.size, 1, none⟩) (World.block_lt_of_cell? wr _ h.n1)).trans h.n1⟩
theorem RIn.stay {M n c : Nat} {a : Option Addr} {w : World} {l : List Pip} {s : Int} {m0 k : Nat} {b : Bool} {gg m c' : Nat} {R : List Int} {wr wx : World} (h : RIn M n c a w l s m0 k b gg m c' R wr) (hb : Below wr.heap.size wr wx) : RIn M n c a w l s m0 k b gg m c' R wx :=
  ⟨h.own.below hb, h.wet, h.clo, bstep h.bel hb, (hb.cell (p := ⟨w.heap.size, 1, none⟩) (World.block_lt_of_cell? wr _ h.n1)).trans h.n1⟩
theorem RIn.more {M n c : Nat} {a : Option Addr} {w : World} {l : List Pip} {s : Int} {m0 k : Nat} {b : Bool} {gg m c' : Nat} {R R' : List Int} {wr wx : World} (h : RIn M n c a w l s m0 k b gg m c' R wr) (hb : Below wr.heap.size wr wx) {B gg' c'' : Nat} (ho : OwnI wx B (.slice (some ⟨gg', 0, none⟩) (m + 1) c'') R') (hB : w.heap.size + 1 ≤ B) (hw : Wet M l s R') : RIn M n c a w l s m0 (k + 1) true gg' (m + 1) c'' R' wx :=
  ⟨ho.mono hB, hw, .inr ⟨rfl, by rcases h.clo with ⟨-, h, -⟩ | ⟨-, h⟩ <;> omega⟩, bstep h.bel hb, (hb.cell (p := ⟨w.heap.size, 1, none⟩) (World.block_lt_of_cell? wr _ h.n1)).trans h.n1⟩

set_option maxRecDepth 100000 in
set_option maxHeartbeats 4000000 in
theorem s_l2Reached (M : Nat) (s : Int) (a : Option Addr) (n c : Nat) (l : List Pip) (w : World) (h : QAt w a n l) (hg : goodNet M l = true) (hs : 1 ≤ s ∧ s ≤ M) :
    Calls Try.prog 74 #[.agg #[.int .i64 M, .slice a n c], .int .i64 s] w fun e w' => ∃ g c', e = .returned (.slice (some ⟨g, 0, none⟩) (reachL M l 0 s).length c') ∧ OwnI w' w.heap.size (.slice (some ⟨g, 0, none⟩) (reachL M l 0 s).length c') (reachL M l 0 s) ∧ Below w.heap.size w w' := by
  have hM : M ≤ 8 := by have := (goodNet_get hg).1; omega
  have hn : n ≤ 10 := by have := (goodNet_get hg).2.1; have := h.1; omega
  have HLN := hid h.1
  have H := hid h
  have HG := hid hg
  have HSS := hid hs
  clear h hg hs
  go_enter Try.func74, Try.ntmps74
  go_wp2
  go_loopg [5, 6] (2 * (M + 1 - 1) + 1) (fun g o i wr => ∃ (R : List Int) (gg m c' : Nat) (b : Bool), g = 2 * (M + 1 - m) + b.toNat ∧ o = .slice (some ⟨gg, 0, none⟩) m c' ∧ i = .bool b ∧ Hid (∃ m0, RIn M n c a w l s m0 n b gg m c' R wr ∨ b = true ∧ RIn M n c a w l s 0 0 b gg m c' R wr))
  case atStart =>
    have hx : RIn M n c a w l s 0 0 true (w.heap.size + 1) 1 1 [s] ((w.alloc (.cells #[.int .i64 M, .slice a n c] 31)).alloc (.cells #[.int .i64 s] 3)) := by
      refine ⟨?_, Wet.start HG.out HSS.out, .inr ⟨rfl, by omega⟩, by go_grown, ?_⟩
      · have := World.ownsRow_lit (base := w.heap.size + 1) (e := 3) (size := 1) (w.alloc (.cells #[.int .i64 M, .slice a n c] 31)) #[.int .i64 s] 1 (by simp) (by decide) rfl
        exact OwnI.of_row (n := 1) (by simpa using this)
      · rw [cell_of_row _ _ _ _ _ (0, 0) (mid_new w _ _ _ rfl)]; rfl
    exact ⟨[s], w.heap.size + 1, 1, 1, true, rfl, rfl, rfl, hid ⟨0, .inr ⟨rfl, hx⟩⟩⟩
  case round =>
    obtain ⟨R0, gg0, m0, c0, b0, rfl, rfl, rfl, hh⟩ := hrel
    cases b0
    · have hr : RIn M n c a w l s m0 n false gg0 m0 c0 R0 wr := by
        obtain ⟨m1, h1 | ⟨h1, -⟩⟩ := hh.out
        · refine ⟨h1.own, h1.wet, ?_, h1.bel, h1.n1⟩
          rcases h1.clo with ⟨x, y, z⟩ | ⟨x, y⟩
          · exact .inl ⟨x, rfl, z⟩
          · cases x
        · cases h1
      have e := hr.wet.done HG.out (by
        rcases hr.clo with ⟨-, -, z⟩ | ⟨x, -⟩
        · intro k hk
          exact z k (by have := HLN.out; omega)
        · cases x)
      have hl := hr.own.len
      subst e
      subst hl
      have HR := hid hr
      clear hr
      go_wp2
      go_ret
      exact ⟨_, _, rfl, HR.out.own.mono (by omega), HR.out.bel⟩
    · have hr : RIn M n c a w l s m0 0 false gg0 m0 c0 R0 wr := by
        obtain ⟨m1, h1 | ⟨-, h1⟩⟩ := hh.out
        · exact ⟨h1.own, h1.wet, .inl ⟨rfl, rfl, fun j hj => by omega⟩, h1.bel, h1.n1⟩
        · exact ⟨h1.own, h1.wet, .inl ⟨rfl, rfl, fun j hj => by omega⟩, h1.bel, h1.n1⟩
      have hm0 : m0 ≤ M := by
        have := hr.wet.len
        have := hr.own.len
        omega
      have HR := hid hr
      clear hr hh
      obtain ⟨W0, hW0⟩ : ∃ W, W = wr := ⟨_, rfl⟩
      subst hW0
      go_wp2
      go_loopg [5, 6, 7] n (fun g o b i wr => ∃ (R : List Int) (gg m c' k : Nat) (bb : Bool), k ≤ n ∧ g = n - k ∧ i = .int .i64 k ∧ o = .slice (some ⟨gg, 0, none⟩) m c' ∧ b = .bool bb ∧ Hid (RIn M n c a w l s m0 k bb gg m c' R wr))
      case atStart => exact ⟨R0, gg0, m0, c0, 0, false, Nat.zero_le _, rfl, rfl, rfl, rfl, HR⟩
      case round =>
        obtain ⟨R, gg, m, c', k, bb, hk, rfl, rfl, rfl, rfl, hh⟩ := hrel
        have n1 := hh.out.n1
        have hz0 : w.heap.size < wr.heap.size := World.block_lt_of_cell? wr _ n1
        have hm : m ≤ M := by
          have := hh.out.wet.len
          have := hh.out.own.len
          omega
        have hm1 : 0 < m := by
          have := hh.out.wet.pos
          have := hh.out.own.len
          omega
        have hmc := own_cap hh.out.own
        by_cases hlt : k < n
        · obtain ⟨b0, off0, rfl, hbw, x0, x1, x2, x3⟩ := QAt.get (H.out.below hh.out.bel) k hlt
          have hkl : k < l.length := by have := HLN.out; omega
          have HE := hid (pipe_edge HG.out hkl)
          clear hkl x0 x3
          obtain ⟨F, hF⟩ : ∃ F, (pp l k).2.1 = F := ⟨_, rfl⟩
          obtain ⟨T, hT⟩ : ∃ T, (pp l k).2.2.1 = T := ⟨_, rfl⟩
          rw [hF] at x1 HE
          rw [hT] at x2 HE
          have HF := hid hF
          have HT := hid hT
          clear hF hT
          by_cases fa : F ∈ R
          · by_cases fb : T ∈ R
            · have FA := hid (show decide (F ∈ R) = true by simp [fa])
              have FB := hid (show decide (T ∈ R) = true by simp [fb])
              have FE := hid (show (pp l k).2.1 ∈ R ↔ (pp l k).2.2.1 ∈ R by rw [HF.out, HT.out]; simp [fa, fb])
              clear fa fb
              go_upto_region 8 with fail
              go_quiet (first | (go_at_call 75; exact quiet_eq (s_l1Has_is _ _ _ _ R _ (hh.out.own.at.below (bdraws _)) (by omega) _ (by first | exact FA.out | exact FB.out))))
              have HH := hid (hh.out.stay (bdraws nq))
              obtain ⟨hq1, -⟩ := bcell (bdraws nq : Below wr.heap.size wr (wr.drewN nq))
              have y1 := (hq1 _ _ hbw).trans x1
              have y2 := (hq1 _ _ hbw).trans x2
              clear hh hq1 x1 x2 n1 hz0 hbw
              have n1 := HH.out.n1
              generalize wr.drewN nq = wq at HH y1 y2 n1 ⊢
              have hz0 : w.heap.size < wq.heap.size := World.block_lt_of_cell? wq _ n1
              have hbw : b0 < wq.heap.size := World.block_lt_of_cell? wq _ y1
              go_wp2
              go_roundg (n - (k + 1))
              case rel => exact ⟨R, gg, m, c', k + 1, bb, by omega, rfl, by go_num, rfl, rfl, hid (HH.out.same (Below.refl _ _) FE.out)⟩
              case measure => omega
            · have FA := hid (show decide (F ∈ R) = true by simp [fa])
              have FB := hid (show decide (T ∈ R) = false by simp [fb])
              have F1 := hid fa
              have F2 := hid fb
              clear fa fb
              go_upto_region 8 with fail
              go_quiet (first | (go_at_call 75; exact quiet_eq (s_l1Has_is _ _ _ _ R _ (hh.out.own.at.below (bdraws _)) (by omega) _ (by first | exact FA.out | exact FB.out))))
              have HH := hid (hh.out.stay (bdraws nq))
              obtain ⟨hq1, -⟩ := bcell (bdraws nq : Below wr.heap.size wr (wr.drewN nq))
              have y1 := (hq1 _ _ hbw).trans x1
              have y2 := (hq1 _ _ hbw).trans x2
              clear hh hq1 x1 x2 n1 hz0 hbw
              have n1 := HH.out.n1
              generalize wr.drewN nq = wq at HH y1 y2 n1 ⊢
              have hz0 : w.heap.size < wq.heap.size := World.block_lt_of_cell? wq _ n1
              have hbw : b0 < wq.heap.size := World.block_lt_of_cell? wq _ y1
              go_upto_region 10 with fail
              have q0 : ∀ wy w5 : World, Below wy.heap.size wy w5 → (wy.cell? ⟨w.heap.size, 1, none⟩ = some (.slice (some ⟨b0, off0, none⟩) n c) ∧ wy.cell? ⟨b0, off0 + k * 4 + 1, none⟩ = some (.int .i64 F) ∧ wy.cell? ⟨b0, off0 + k * 4 + 2, none⟩ = some (.int .i64 T)) → (w5.cell? ⟨w.heap.size, 1, none⟩ = some (.slice (some ⟨b0, off0, none⟩) n c) ∧ w5.cell? ⟨b0, off0 + k * 4 + 1, none⟩ = some (.int .i64 F) ∧ w5.cell? ⟨b0, off0 + k * 4 + 2, none⟩ = some (.int .i64 T)) :=
                fun wy w5 hb ⟨z1, z2, z3⟩ => ⟨(hb.cell (World.block_lt_of_cell? wy _ z1)).trans z1, (hb.cell (World.block_lt_of_cell? wy _ z2)).trans z2, (hb.cell (World.block_lt_of_cell? wy _ z3)).trans z3⟩
              have Q0 := hid q0
              clear q0
              go_region_held3 (fun w' => (w'.cell? ⟨w.heap.size, 1, none⟩ = some (.slice (some ⟨b0, off0, none⟩) n c) ∧ w'.cell? ⟨b0, off0 + k * 4 + 1, none⟩ = some (.int .i64 F) ∧ w'.cell? ⟨b0, off0 + k * 4 + 2, none⟩ = some (.int .i64 T))) (first | go_keep | exact Q0.out _ _ (by assumption) (by first | assumption | (refine ⟨?_, ?_, ?_⟩ <;> assumption) | simp [*]))
                ((first | (go_at_call_of 101 F; refine (s_l1Put_in gg _ _ F R _ (HH.out.own.at.below (by go_grown)) (by omega) HH.out.wet.asc F1.out).mono ?_; rintro e _ ⟨rfl, rfl⟩) | (go_at_call_of 101 T; refine (s_l1Put_new gg _ _ T R _ (HH.out.own.at.below (by go_grown)) (by omega) (by omega) (by omega) F2.out).mono ?_; rintro e w5 ⟨a5, c5, rfl, ho5, hb5⟩; obtain ⟨g5, rfl, -, -⟩ := own_some ho5 (by omega); obtain ⟨hc5, hf5⟩ := bcell hb5)))
              have HQ := hid (HH.out.more (bstep (by go_grown : Below wq.heap.size wq wq.drew) hb5) ho5 (by simp <;> omega) (HH.out.wet.put HG.out F2.out F1.out HE.out.1))
              clear hb5 ho5 HH
              go_wp2
              go_roundg (n - (k + 1))
              case rel => exact ⟨ins T R, _, _, _, k + 1, true, by omega, rfl, by go_num, rfl, rfl, HQ⟩
              case measure => omega
          · by_cases fb : T ∈ R
            · have FA := hid (show decide (F ∈ R) = false by simp [fa])
              have FB := hid (show decide (T ∈ R) = true by simp [fb])
              have F1 := hid fa
              have F2 := hid fb
              clear fa fb
              go_upto_region 8 with fail
              go_quiet (first | (go_at_call 75; exact quiet_eq (s_l1Has_is _ _ _ _ R _ (hh.out.own.at.below (bdraws _)) (by omega) _ (by first | exact FA.out | exact FB.out))))
              have HH := hid (hh.out.stay (bdraws nq))
              obtain ⟨hq1, -⟩ := bcell (bdraws nq : Below wr.heap.size wr (wr.drewN nq))
              have y1 := (hq1 _ _ hbw).trans x1
              have y2 := (hq1 _ _ hbw).trans x2
              clear hh hq1 x1 x2 n1 hz0 hbw
              have n1 := HH.out.n1
              generalize wr.drewN nq = wq at HH y1 y2 n1 ⊢
              have hz0 : w.heap.size < wq.heap.size := World.block_lt_of_cell? wq _ n1
              have hbw : b0 < wq.heap.size := World.block_lt_of_cell? wq _ y1
              go_upto_region 10 with fail
              have q0 : ∀ wy w5 : World, Below wy.heap.size wy w5 → (wy.cell? ⟨w.heap.size, 1, none⟩ = some (.slice (some ⟨b0, off0, none⟩) n c) ∧ wy.cell? ⟨b0, off0 + k * 4 + 1, none⟩ = some (.int .i64 F) ∧ wy.cell? ⟨b0, off0 + k * 4 + 2, none⟩ = some (.int .i64 T)) → (w5.cell? ⟨w.heap.size, 1, none⟩ = some (.slice (some ⟨b0, off0, none⟩) n c) ∧ w5.cell? ⟨b0, off0 + k * 4 + 1, none⟩ = some (.int .i64 F) ∧ w5.cell? ⟨b0, off0 + k * 4 + 2, none⟩ = some (.int .i64 T)) :=
                fun wy w5 hb ⟨z1, z2, z3⟩ => ⟨(hb.cell (World.block_lt_of_cell? wy _ z1)).trans z1, (hb.cell (World.block_lt_of_cell? wy _ z2)).trans z2, (hb.cell (World.block_lt_of_cell? wy _ z3)).trans z3⟩
              have Q0 := hid q0
              clear q0
              go_region_held3 (fun w' => (w'.cell? ⟨w.heap.size, 1, none⟩ = some (.slice (some ⟨b0, off0, none⟩) n c) ∧ w'.cell? ⟨b0, off0 + k * 4 + 1, none⟩ = some (.int .i64 F) ∧ w'.cell? ⟨b0, off0 + k * 4 + 2, none⟩ = some (.int .i64 T))) (first | go_keep | exact Q0.out _ _ (by assumption) (by first | assumption | (refine ⟨?_, ?_, ?_⟩ <;> assumption) | simp [*]))
                ((first | (go_at_call_of 101 F; refine (s_l1Put_new gg _ _ F R _ (HH.out.own.at.below (by go_grown)) (by omega) (by omega) (by omega) F1.out).mono ?_; rintro e w5 ⟨a5, c5, rfl, ho5, hb5⟩; obtain ⟨g5, rfl, -, -⟩ := own_some ho5 (by omega); obtain ⟨hc5, hf5⟩ := bcell hb5) | (go_at_call_of 101 T; refine (s_l1Put_in g5 _ _ T (ins F R) _ ho5.at (by omega) (asc_ins HH.out.wet.asc F1.out) (mem_ins.2 (.inr F2.out))).mono ?_; rintro e _ ⟨rfl, rfl⟩)))
              have HQ := hid (HH.out.more (bstep (by go_grown : Below wq.heap.size wq wq.drew) hb5) ho5 (by simp <;> omega) (HH.out.wet.put HG.out F1.out F2.out HE.out.2))
              clear hb5 ho5 HH
              go_wp2
              go_roundg (n - (k + 1))
              case rel => exact ⟨ins F R, _, _, _, k + 1, true, by omega, rfl, by go_num, rfl, rfl, HQ⟩
              case measure => omega
            · have FA := hid (show decide (F ∈ R) = false by simp [fa])
              have FB := hid (show decide (T ∈ R) = false by simp [fb])
              have FE := hid (show (pp l k).2.1 ∈ R ↔ (pp l k).2.2.1 ∈ R by rw [HF.out, HT.out]; simp [fa, fb])
              clear fa fb
              go_upto_region 8 with fail
              go_quiet (first | (go_at_call 75; exact quiet_eq (s_l1Has_is _ _ _ _ R _ (hh.out.own.at.below (bdraws _)) (by omega) _ (by first | exact FA.out | exact FB.out))))
              have HH := hid (hh.out.stay (bdraws nq))
              obtain ⟨hq1, -⟩ := bcell (bdraws nq : Below wr.heap.size wr (wr.drewN nq))
              have y1 := (hq1 _ _ hbw).trans x1
              have y2 := (hq1 _ _ hbw).trans x2
              clear hh hq1 x1 x2 n1 hz0 hbw
              have n1 := HH.out.n1
              generalize wr.drewN nq = wq at HH y1 y2 n1 ⊢
              have hz0 : w.heap.size < wq.heap.size := World.block_lt_of_cell? wq _ n1
              have hbw : b0 < wq.heap.size := World.block_lt_of_cell? wq _ y1
              go_wp2
              go_roundg (n - (k + 1))
              case rel => exact ⟨R, gg, m, c', k + 1, bb, by omega, rfl, by go_num, rfl, rfl, hid (HH.out.same (Below.refl _ _) FE.out)⟩
              case measure => omega
        · obtain rfl : k = n := by omega
          go_wp2
          go_roundg (2 * (M + 1 - m) + bb.toNat)
          case rel => exact ⟨R, gg, m, c', bb, rfl, rfl, rfl, hid ⟨m0, .inl hh.out⟩⟩
          case measure =>
            have := hh.out.clo
            cases bb
            · simp at this ⊢
              omega
            · simp at this ⊢
              omega

end Go.Proofs.Ytikjighlnpdgiaa

/-
  Networks: which are valid, in the reference.
-/
set_option linter.unusedVariables false
set_option linter.unusedSimpArgs false
namespace Go.Proofs.Ytikjighlnpdgiaa
open Go.RowKit

set_option maxRecDepth 100000 in
set_option maxHeartbeats 8000000 in
theorem s_l2Good (N : Int) (a : Option Addr) (n c : Nat) (l : List Pip) (w : World) (h : QAt w a n l) (hn : n ≤ 1048576) :
    Calls Try.prog 66 #[.agg #[.int .i64 N, .slice a n c]] w fun e w' => e = .returned (.bool (goodNet N l)) ∧ Below w.heap.size w w' := by
  have hl := h.1
  have H := hid h
  clear h
  have HL := hid hl
  clear hl
  go_enter Try.func66, Try.ntmps66
  go_wp2
  go_loopg [3] (min n 11) (fun g i wr => ∃ k : Nat, k ≤ n ∧ k ≤ 11 ∧ g = min n 11 - k ∧ i = .int .i64 k ∧ Hid (Below w.heap.size w wr ∧ wr.cell? ⟨w.heap.size, 0, none⟩ = some (.int .i64 N) ∧ wr.cell? ⟨w.heap.size, 1, none⟩ = some (.slice a n c)) ∧ Hid (∀ j, j < k → okQ N l j = true))
  case atStart => exact ⟨0, Nat.zero_le _, by omega, rfl, rfl, hid ⟨(Below.refl _ _).alloc (Nat.le_refl _) _, cell_of_row _ _ 0 _ _ (0, 0) (heap_alloc_new _ _), cell_of_row _ _ 1 _ _ (0, 0) (heap_alloc_new _ _)⟩, hid (fun j hj => absurd hj (by omega))⟩
  case round =>
    obtain ⟨k, hk, hk11, rfl, rfl, hB, hh⟩ := hrel
    by_cases hlt : k < n
    · by_cases hle : k ≤ 10
      · obtain ⟨b0, off0, rfl, hbw, x0, x1, x2, x3⟩ := QAt.get (H.out.below hB.out.1) k hlt
        obtain ⟨_, _, e1, _, y0, -⟩ := QAt.get (H.out.below hB.out.1) (k - 1) (by omega)
        cases e1
        obtain ⟨-, n0, n1⟩ := hB.out
        have hz0 : w.heap.size < wr.heap.size := World.block_lt_of_cell? wr _ n0
        go_upto_region 4 with fail
        have X := hid (show NetS w N b0 off0 n c k l wr.drew from ⟨hB.out.1.drew, n0, n1, x0, x1, x2, x3, y0⟩)
        clear x0 x1 x2 x3 y0 n0 n1
        by_cases hok : okQ N l k = true
        · have hq0 := hok
          simp only [okQ, Bool.and_eq_true, Bool.or_eq_true, decide_eq_true_eq] at hq0
          obtain ⟨c1, c6⟩ := hq0
          have HP : Hid (okPipe N (pp l k) = true) := hid c1
          clear c1
          by_cases hk0 : k = 0
          · have hkp : ¬ 0 < k := by omega
            clear c6 hk0
            refine wp_region_calm (C := (fun w' => Below w.heap.size w w' ∧ w'.cell? ⟨w.heap.size, 0, none⟩ = some (.int .i64 N) ∧ w'.cell? ⟨w.heap.size, 1, none⟩ = some (.slice (some ⟨b0, off0, none⟩) n c) ∧ w'.cell? ⟨b0, off0 + k * 4, none⟩ = some (.int .i64 (pp l k).1) ∧ w'.cell? ⟨b0, off0 + k * 4 + 1, none⟩ = some (.int .i64 (pp l k).2.1) ∧ w'.cell? ⟨b0, off0 + k * 4 + 2, none⟩ = some (.int .i64 (pp l k).2.2.1) ∧ w'.cell? ⟨b0, off0 + k * 4 + 3, none⟩ = some (.int .i64 (pp l k).2.2.2) ∧ w'.cell? ⟨b0, off0 + (k - 1) * 4, none⟩ = some (.int .i64 (pp l (k - 1)).1))) (by kernel_rfl) (by kernel_rfl) (X.out) ?_
            repeat
              first
                | go_big_quiet_skip
                | (go_big_quiet_want
                   first
                     | (unfold Oper.quiet
                        apply Exists.intro
                        refine ⟨fun wq hq => ?_, ?_⟩
                        · (try dsimp only at hq
                           simp [go_sem, Oper.quietAt, Oper.quietUpon, BigFrame.eval_const, BigFrame.eval_global, BigFrame.eval_func, ↓IntWalk.iteOmega, *]
                           first | done | rfl | (first | (refine calm_call hq (NetS.keep w N b0 off0 n c k l) (s_l2Pipe _ _ _ _ _ _) (by rw [show okPipe N ((pp l k).1, (pp l k).2.1, (pp l k).2.2.1, (pp l k).2.2.2) = true from HP.out]))))
                        simp only [Act.put, List.setIfInBounds_toArray, List.set_cons_succ, List.set_cons_zero]
                        go_big_quiet_on))
            refine wpQuiet_nil ?_
            intro wc hcalm
            try dsimp only at hcalm
            have HC := hid (⟨hcalm.1, hcalm.2.1, hcalm.2.2.1⟩ : Below w.heap.size w wc ∧ wc.cell? ⟨w.heap.size, 0, none⟩ = some (.int .i64 N) ∧ wc.cell? ⟨w.heap.size, 1, none⟩ = some (.slice (some ⟨b0, off0, none⟩) n c))
            clear hcalm
            go_wp2
            go_roundg (min n 11 - (k + 1))
            case rel => exact ⟨k + 1, by omega, by omega, rfl, by go_num, HC, hid (all_nextN hh.out hok)⟩
            case measure => omega
          · have hlt6 : (pp l (k - 1)).1 < (pp l k).1 := by rcases c6 with h | h; (exact absurd h hk0); exact h
            have hle6 : ¬ (pp l k).1 ≤ (pp l (k - 1)).1 := by omega
            clear c6
            have hkp : 0 < k := by omega
            have hk1 : k - 1 < n := by omega
            have hw : IntKind.i64.wrap ((k : Int) - 1) = ((k - 1 : Nat) : Int) := (IntWalk.i64_in _ (by omega)).trans (by omega)
            refine wp_region_calm (C := (fun w' => Below w.heap.size w w' ∧ w'.cell? ⟨w.heap.size, 0, none⟩ = some (.int .i64 N) ∧ w'.cell? ⟨w.heap.size, 1, none⟩ = some (.slice (some ⟨b0, off0, none⟩) n c) ∧ w'.cell? ⟨b0, off0 + k * 4, none⟩ = some (.int .i64 (pp l k).1) ∧ w'.cell? ⟨b0, off0 + k * 4 + 1, none⟩ = some (.int .i64 (pp l k).2.1) ∧ w'.cell? ⟨b0, off0 + k * 4 + 2, none⟩ = some (.int .i64 (pp l k).2.2.1) ∧ w'.cell? ⟨b0, off0 + k * 4 + 3, none⟩ = some (.int .i64 (pp l k).2.2.2) ∧ w'.cell? ⟨b0, off0 + (k - 1) * 4, none⟩ = some (.int .i64 (pp l (k - 1)).1))) (by kernel_rfl) (by kernel_rfl) (X.out) ?_
            repeat
              first
                | go_big_quiet_skip
                | (go_big_quiet_want
                   first
                     | (unfold Oper.quiet
                        apply Exists.intro
                        refine ⟨fun wq hq => ?_, ?_⟩
                        · (try dsimp only at hq
                           simp [go_sem, Oper.quietAt, Oper.quietUpon, BigFrame.eval_const, BigFrame.eval_global, BigFrame.eval_func, ↓IntWalk.iteOmega, *]
                           first | done | rfl | (first | (refine calm_call hq (NetS.keep w N b0 off0 n c k l) (s_l2Pipe _ _ _ _ _ _) (by rw [show okPipe N ((pp l k).1, (pp l k).2.1, (pp l k).2.2.1, (pp l k).2.2.2) = true from HP.out]))))
                        simp only [Act.put, List.setIfInBounds_toArray, List.set_cons_succ, List.set_cons_zero]
                        go_big_quiet_on))
            refine wpQuiet_nil ?_
            intro wc hcalm
            try dsimp only at hcalm
            have HC := hid (⟨hcalm.1, hcalm.2.1, hcalm.2.2.1⟩ : Below w.heap.size w wc ∧ wc.cell? ⟨w.heap.size, 0, none⟩ = some (.int .i64 N) ∧ wc.cell? ⟨w.heap.size, 1, none⟩ = some (.slice (some ⟨b0, off0, none⟩) n c))
            clear hcalm
            go_wp2
            go_roundg (min n 11 - (k + 1))
            case rel => exact ⟨k + 1, by omega, by omega, rfl, by go_num, HC, hid (all_nextN hh.out hok)⟩
            case measure => omega
        · have E := hid (goodNet_bad (k := k) (by have := HL.out; omega) (by simpa using hok) : goodNet N l = false).symm
          cases c1 : okPipe N (pp l k)
          · have HP : Hid (okPipe N (pp l k) = false) := hid c1
            clear c1 hok
            refine wp_region_calm (C := (fun w' => Below w.heap.size w w' ∧ w'.cell? ⟨w.heap.size, 0, none⟩ = some (.int .i64 N) ∧ w'.cell? ⟨w.heap.size, 1, none⟩ = some (.slice (some ⟨b0, off0, none⟩) n c) ∧ w'.cell? ⟨b0, off0 + k * 4, none⟩ = some (.int .i64 (pp l k).1) ∧ w'.cell? ⟨b0, off0 + k * 4 + 1, none⟩ = some (.int .i64 (pp l k).2.1) ∧ w'.cell? ⟨b0, off0 + k * 4 + 2, none⟩ = some (.int .i64 (pp l k).2.2.1) ∧ w'.cell? ⟨b0, off0 + k * 4 + 3, none⟩ = some (.int .i64 (pp l k).2.2.2) ∧ w'.cell? ⟨b0, off0 + (k - 1) * 4, none⟩ = some (.int .i64 (pp l (k - 1)).1))) (by kernel_rfl) (by kernel_rfl) (X.out) ?_
            repeat
              first
                | go_big_quiet_skip
                | (go_big_quiet_want
                   first
                     | (unfold Oper.quiet
                        apply Exists.intro
                        refine ⟨fun wq hq => ?_, ?_⟩
                        · (try dsimp only at hq
                           simp [go_sem, Oper.quietAt, Oper.quietUpon, BigFrame.eval_const, BigFrame.eval_global, BigFrame.eval_func, ↓IntWalk.iteOmega, *]
                           first | done | rfl | (first | (refine calm_call hq (NetS.keep w N b0 off0 n c k l) (s_l2Pipe _ _ _ _ _ _) (by rw [show okPipe N ((pp l k).1, (pp l k).2.1, (pp l k).2.2.1, (pp l k).2.2.2) = false from HP.out]))))
                        simp only [Act.put, List.setIfInBounds_toArray, List.set_cons_succ, List.set_cons_zero]
                        go_big_quiet_on))
            refine wpQuiet_nil ?_
            intro wc hcalm
            try dsimp only at hcalm
            have HC := hid (⟨hcalm.1, hcalm.2.1, hcalm.2.2.1⟩ : Below w.heap.size w wc ∧ wc.cell? ⟨w.heap.size, 0, none⟩ = some (.int .i64 N) ∧ wc.cell? ⟨w.heap.size, 1, none⟩ = some (.slice (some ⟨b0, off0, none⟩) n c))
            clear hcalm
            go_wp2
            go_ret
            exact ⟨ret_bool E.out, HC.out.1⟩
          · have HP : Hid (okPipe N (pp l k) = true) := hid c1
            have hq0 : ¬ (k = 0 ∨ (pp l (k - 1)).1 < (pp l k).1) := fun h => hok (by simp only [okQ, Bool.and_eq_true, Bool.or_eq_true, decide_eq_true_eq]; exact ⟨c1, h⟩)
            have hle6 : (pp l k).1 ≤ (pp l (k - 1)).1 := by omega
            clear c1 hok
            have hkp : 0 < k := by omega
            have hk1 : k - 1 < n := by omega
            clear hq0
            have hw : IntKind.i64.wrap ((k : Int) - 1) = ((k - 1 : Nat) : Int) := (IntWalk.i64_in _ (by omega)).trans (by omega)
            refine wp_region_calm (C := (fun w' => Below w.heap.size w w' ∧ w'.cell? ⟨w.heap.size, 0, none⟩ = some (.int .i64 N) ∧ w'.cell? ⟨w.heap.size, 1, none⟩ = some (.slice (some ⟨b0, off0, none⟩) n c) ∧ w'.cell? ⟨b0, off0 + k * 4, none⟩ = some (.int .i64 (pp l k).1) ∧ w'.cell? ⟨b0, off0 + k * 4 + 1, none⟩ = some (.int .i64 (pp l k).2.1) ∧ w'.cell? ⟨b0, off0 + k * 4 + 2, none⟩ = some (.int .i64 (pp l k).2.2.1) ∧ w'.cell? ⟨b0, off0 + k * 4 + 3, none⟩ = some (.int .i64 (pp l k).2.2.2) ∧ w'.cell? ⟨b0, off0 + (k - 1) * 4, none⟩ = some (.int .i64 (pp l (k - 1)).1))) (by kernel_rfl) (by kernel_rfl) (X.out) ?_
            repeat
              first
                | go_big_quiet_skip
                | (go_big_quiet_want
                   first
                     | (unfold Oper.quiet
                        apply Exists.intro
                        refine ⟨fun wq hq => ?_, ?_⟩
                        · (try dsimp only at hq
                           simp [go_sem, Oper.quietAt, Oper.quietUpon, BigFrame.eval_const, BigFrame.eval_global, BigFrame.eval_func, ↓IntWalk.iteOmega, *]
                           first | done | rfl | (first | (refine calm_call hq (NetS.keep w N b0 off0 n c k l) (s_l2Pipe _ _ _ _ _ _) (by rw [show okPipe N ((pp l k).1, (pp l k).2.1, (pp l k).2.2.1, (pp l k).2.2.2) = true from HP.out]))))
                        simp only [Act.put, List.setIfInBounds_toArray, List.set_cons_succ, List.set_cons_zero]
                        go_big_quiet_on))
            refine wpQuiet_nil ?_
            intro wc hcalm
            try dsimp only at hcalm
            have HC := hid (⟨hcalm.1, hcalm.2.1, hcalm.2.2.1⟩ : Below w.heap.size w wc ∧ wc.cell? ⟨w.heap.size, 0, none⟩ = some (.int .i64 N) ∧ wc.cell? ⟨w.heap.size, 1, none⟩ = some (.slice (some ⟨b0, off0, none⟩) n c))
            clear hcalm
            go_wp2
            go_ret
            exact ⟨ret_bool E.out, HC.out.1⟩
      · have hx : ¬ l.length ≤ 10 := by have := HL.out; omega
        have E := hid (show false = goodNet N l by simp [goodNet, hx])
        clear hx
        obtain ⟨-, n0, n1⟩ := hB.out
        have hz0 : w.heap.size < wr.heap.size := World.block_lt_of_cell? wr _ n0
        cases h1 : inR N 1 8
        · have H1 := hid h1
          clear h1
          go_wp2_with fail
          refine (s_l1In _ _ _ _).mono ?_
          rintro e _ ⟨rfl, rfl⟩
          rw [H1.out]
          go_wp2
          go_ret
          exact ⟨ret_bool (by first | exact E.out | (rw [← E.out]; simp; omega)), hB.out.1⟩
        · have H1 := hid h1
          clear h1
          go_wp2_with fail
          refine (s_l1In _ _ _ _).mono ?_
          rintro e _ ⟨rfl, rfl⟩
          rw [H1.out]
          go_wp2
          go_ret
          exact ⟨ret_bool (by first | exact E.out | (rw [← E.out]; simp; omega)), hB.out.1⟩
    · obtain rfl : k = n := by omega
      obtain ⟨-, n0, n1⟩ := hB.out
      have hz0 : w.heap.size < wr.heap.size := World.block_lt_of_cell? wr _ n0
      cases h1 : inR N 1 8
      · have E := hid (show false = goodNet N l by simp [goodNet, h1])
        have H1 := hid h1
        clear h1
        go_wp2_with fail
        refine (s_l1In _ _ _ _).mono ?_
        rintro e _ ⟨rfl, rfl⟩
        rw [H1.out]
        go_wp2
        go_ret
        exact ⟨ret_bool (by first | exact E.out | (rw [← E.out]; simp; omega)), hB.out.1⟩
      · by_cases h10 : k ≤ 10
        · have E := hid (goodNet_all h1 (by have := HL.out; omega) (fun j hj => hh.out j (by have := HL.out; omega)) : goodNet N l = true).symm
          have H1 := hid h1
          clear h1
          go_wp2_with fail
          refine (s_l1In _ _ _ _).mono ?_
          rintro e _ ⟨rfl, rfl⟩
          rw [H1.out]
          go_wp2
          go_ret
          exact ⟨ret_bool (by first | exact E.out | (rw [← E.out]; simp; omega)), hB.out.1⟩
        · have hx : ¬ l.length ≤ 10 := by have := HL.out; omega
          have E := hid (show false = goodNet N l by simp [goodNet, hx])
          have H1 := hid h1
          clear h1 hx
          go_wp2_with fail
          refine (s_l1In _ _ _ _).mono ?_
          rintro e _ ⟨rfl, rfl⟩
          rw [H1.out]
          go_wp2
          go_ret
          exact ⟨ret_bool (by first | exact E.out | (rw [← E.out]; simp; omega)), hB.out.1⟩

end Go.Proofs.Ytikjighlnpdgiaa

/-
  Steps of a drawn region, operation by operation.
-/
set_option linter.unusedVariables false
set_option linter.unusedSimpArgs false
namespace Go.Proofs.Ytikjighlnpdgiaa
open Go.RowKit

theorem drop_get {α : Type} {l : Array α} {i : Nat} {x : α} {r : List α} (h : l.toList.drop i = x :: r) : l[i]? = some x := by
  have e : (l.toList.drop i)[0]? = some x := by rw [h]; rfl
  rw [List.getElem?_drop] at e
  simpa using e
theorem wpAnyH_take' {P : Program} {md : Region.Mode} {ops : Array Oper} {Q : Exit → Act → World → Prop} {S : World → Prop} {i : Nat} {oi : Oper} {rest : List Oper} {v : Value} {fuel : Nat} {listed : Array Bool} {a : Act} {w : World} (hi : ops.toList.drop i = oi :: rest)
    (hs : Region.noSelect ops = true) (hf : Region.free md ops listed i = true) (hr : (Region.ready md ops listed).contains i = true)
    (hQ : ∀ c a w, Q (.panic c) (a.put oi.dst v) w → Q (.panic c) a w) (hy : YieldsIf P ops S oi v a) (hS : S w)
    (h : wpAnyH P md ops Q S fuel (listed.setIfInBounds i true) (a.put oi.dst v) w) : wpAnyH P md ops Q S (fuel + 1) listed a w :=
  wpAnyH_take (drop_get hi) hs hf hr hQ hy hS h
theorem allReadyH_cons' {P : Program} {md : Region.Mode} {ops : Array Oper} {Q : Exit → Act → World → Prop} {S : World → Prop} {fuel : Nat} {listed : Array Bool} {a : Act} {w : World} {i : Nat} {o : Oper} {rest : List Oper} {rs : List Nat} (ho : ops.toList.drop i = o :: rest)
    (h : ∀ K' : Act → World → Prop, Shut (∀ a w, S w → (S w → wpAnyH P md ops Q S fuel (listed.setIfInBounds i true) a w) → K' a w) → if Region.wanted o (yielded ops a.tmps) = true then Oper.wp P o a w K' Q else K' (a.put o.dst undef) w)
    (hs : AllReadyH P md ops Q S fuel listed a w rs) : AllReadyH P md ops Q S fuel listed a w (i :: rs) := AllReadyH.cons (drop_get ho) h hs

end Go.Proofs.Ytikjighlnpdgiaa

/-
  Rings and trees: in the program and in the reference.
-/
set_option linter.unusedVariables false
set_option linter.unusedSimpArgs false
namespace Go.Proofs.Ytikjighlnpdgiaa
open Go.RowKit

/-- As many pipes as nodes, and all nodes connected. -/
noncomputable def ringB (N : Int) (l : List Pip) : Bool := decide ((l.length : Int) = N) && decide (((reachL N l 0 1).length : Int) = N)
/-- One pipe less than nodes, and all nodes connected. -/
noncomputable def treeB (N : Int) (l : List Pip) : Bool := decide ((l.length : Int) = N - 1) && decide (((reachL N l 0 1).length : Int) = N)
theorem parts_one' {M : Nat} {l : List Pip} (hg : goodNet M l = true) : cnt M l M = 1 ↔ ((reachL M l 0 1).length : Int) = M := by
  have := parts_one hg
  simpa using this

set_option maxHeartbeats 1000000 in
theorem i_isRing (M : Nat) (a : Option Addr) (n c : Nat) (l : List Pip) (w : World) (h : QAt w a n l) (hg : goodNet M l = true) :
    Calls Try.prog 69 #[.agg #[.int .i64 M, .slice a n c]] w fun e w' => e = .returned (.bool (ringB M l)) ∧ Below w.heap.size w w' := by
  have hM : M ≤ 8 := by have := (goodNet_get hg).1; omega
  have hw : IntKind.i64.wrap ((M : Int) - 1) = (M : Int) - 1 := IntWalk.i64_in _ (by omega)
  have hp := parts_one' hg
  have hL := h.1
  have H := hid h
  have HG := hid hg
  clear h hg
  by_cases hn : (n : Int) = (M : Int)
  · have e1 : ((n : Int) == (M : Int)) = true := by simp [hn]
    by_cases hq : cnt M l M = 1
    · have E := hid (show true = ringB M l by simp [ringB, hL, hn, hp.1 hq])
      have HQ := hid hq
      clear hq hL hp hn
      go_enter Try.func69, Try.ntmps69
      go_wp2_with fail
      refine (i_networkParts M _ _ _ l _ (H.out.below (by go_grown)) HG.out).mono ?_
      rintro e w1 ⟨a1, c1, rfl, hb1⟩
      rw [HQ.out]
      have HB1 := hid (bstep (by go_grown) hb1 : Below w.heap.size w w1)
      clear hb1
      go_wp2
      go_ret
      exact ⟨ret_bool E.out, HB1.out⟩
    · obtain ⟨q, hQ⟩ : ∃ q, cnt M l M = q := ⟨_, rfl⟩
      have E := hid (show false = ringB M l by simp [ringB, hL, hn]; exact fun h => hq (hp.2 (by omega)))
      rw [hQ] at hq
      have e2 : ((q : Int) == 1) = false := by simp; omega
      have HQ := hid hQ
      clear hQ hq hL hp hn
      go_enter Try.func69, Try.ntmps69
      go_wp2_with fail
      refine (i_networkParts M _ _ _ l _ (H.out.below (by go_grown)) HG.out).mono ?_
      rintro e w1 ⟨a1, c1, rfl, hb1⟩
      rw [HQ.out]
      have HB1 := hid (bstep (by go_grown) hb1 : Below w.heap.size w w1)
      clear hb1
      go_wp2
      go_ret
      exact ⟨ret_bool E.out, HB1.out⟩
  · have e1 : ((n : Int) == (M : Int)) = false := by simp [hn]
    have E := hid (show false = ringB M l by simp [ringB, hL, hn])
    clear hL hp hn
    go_enter Try.func69, Try.ntmps69
    go_wp2
    go_ret
    exact ⟨ret_bool E.out, by go_grown⟩
set_option maxHeartbeats 1000000 in
theorem i_isTree (M : Nat) (a : Option Addr) (n c : Nat) (l : List Pip) (w : World) (h : QAt w a n l) (hg : goodNet M l = true) :
    Calls Try.prog 72 #[.agg #[.int .i64 M, .slice a n c]] w fun e w' => e = .returned (.bool (treeB M l)) ∧ Below w.heap.size w w' := by
  have hM : M ≤ 8 := by have := (goodNet_get hg).1; omega
  have hw : IntKind.i64.wrap ((M : Int) - 1) = (M : Int) - 1 := IntWalk.i64_in _ (by omega)
  have hp := parts_one' hg
  have hL := h.1
  have H := hid h
  have HG := hid hg
  clear h hg
  by_cases hn : (n : Int) = (M : Int) - 1
  · have e1 : ((n : Int) == (M : Int) - 1) = true := by simp [hn]
    by_cases hq : cnt M l M = 1
    · have E := hid (show true = treeB M l by simp [treeB, hL, hn, hp.1 hq])
      have HQ := hid hq
      clear hq hL hp hn
      go_enter Try.func72, Try.ntmps72
      go_wp2_with fail
      refine (i_networkParts M _ _ _ l _ (H.out.below (by go_grown)) HG.out).mono ?_
      rintro e w1 ⟨a1, c1, rfl, hb1⟩
      rw [HQ.out]
      have HB1 := hid (bstep (by go_grown) hb1 : Below w.heap.size w w1)
      clear hb1
      go_wp2
      go_ret
      exact ⟨ret_bool E.out, HB1.out⟩
    · obtain ⟨q, hQ⟩ : ∃ q, cnt M l M = q := ⟨_, rfl⟩
      have E := hid (show false = treeB M l by simp [treeB, hL, hn]; exact fun h => hq (hp.2 (by omega)))
      rw [hQ] at hq
      have e2 : ((q : Int) == 1) = false := by simp; omega
      have HQ := hid hQ
      clear hQ hq hL hp hn
      go_enter Try.func72, Try.ntmps72
      go_wp2_with fail
      refine (i_networkParts M _ _ _ l _ (H.out.below (by go_grown)) HG.out).mono ?_
      rintro e w1 ⟨a1, c1, rfl, hb1⟩
      rw [HQ.out]
      have HB1 := hid (bstep (by go_grown) hb1 : Below w.heap.size w w1)
      clear hb1
      go_wp2
      go_ret
      exact ⟨ret_bool E.out, HB1.out⟩
  · have e1 : ((n : Int) == (M : Int) - 1) = false := by simp [hn]
    have E := hid (show false = treeB M l by simp [treeB, hL, hn])
    clear hL hp hn
    go_enter Try.func72, Try.ntmps72
    go_wp2
    go_ret
    exact ⟨ret_bool E.out, by go_grown⟩
set_option maxHeartbeats 4000000 in
theorem s_l10Ring (M : Nat) (a : Option Addr) (n c : Nat) (l : List Pip) (w : World) (h : QAt w a n l) (hg : goodNet M l = true) :
    Calls Try.prog 31 #[.agg #[.int .i64 M, .slice a n c]] w fun e w' => e = .returned (.bool (ringB M l)) ∧ Below w.heap.size w w' := by
  have hM : M ≤ 8 := by have := (goodNet_get hg).1; omega
  have hM1 : 1 ≤ M := by have := (goodNet_get hg).1; omega
  have hw : IntKind.i64.wrap ((M : Int) - 1) = (M : Int) - 1 := IntWalk.i64_in _ (by omega)
  have hL := h.1
  have H := hid h
  have HG := hid hg
  clear h hg
  by_cases hq : (reachL M l 0 1).length = M
  · have HQ := hid hq
    by_cases hn : (n : Int) = (M : Int)
    · have e1 : ((n : Int) == (M : Int)) = true := by simp [hn]
      have E := hid (show true = ringB M l by simp [ringB, hL, hn, hq])
      clear hq hL hn
      go_enter Try.func31, Try.ntmps31
      go_upto_region 1 with fail
      have n0 : (w.alloc (.cells #[.int .i64 M, .slice a n c] 31)).cell? ⟨w.heap.size, 0, none⟩ = some (.int .i64 M) := by rw [cell_of_row _ _ _ _ _ (0, 0) (heap_alloc_new _ _)]; rfl
      have n1 : (w.alloc (.cells #[.int .i64 M, .slice a n c] 31)).cell? ⟨w.heap.size, 1, none⟩ = some (.slice a n c) := by rw [cell_of_row _ _ _ _ _ (0, 0) (heap_alloc_new _ _)]; rfl
      have HA := hid (H.out.below (by go_grown : Below w.heap.size w (w.alloc (.cells #[.int .i64 M, .slice a n c] 31))))
      have BA := hid (by go_grown : Below w.heap.size w (w.alloc (.cells #[.int .i64 M, .slice a n c] 31)))
      have hzA : w.heap.size < (w.alloc (.cells #[.int .i64 M, .slice a n c] 31)).heap.size := by simp
      generalize w.alloc (.cells #[.int .i64 M, .slice a n c] 31) = wA at *
      have q0 : ∀ wy w5 : World, Below wy.heap.size wy w5 → (wy.cell? ⟨w.heap.size, 0, none⟩ = some (.int .i64 M) ∧ wy.cell? ⟨w.heap.size, 1, none⟩ = some (.slice a n c)) → (w5.cell? ⟨w.heap.size, 0, none⟩ = some (.int .i64 M) ∧ w5.cell? ⟨w.heap.size, 1, none⟩ = some (.slice a n c)) :=
        fun wy w5 hb ⟨z1, z2⟩ => ⟨(hb.cell (World.block_lt_of_cell? wy _ z1)).trans z1, (hb.cell (World.block_lt_of_cell? wy _ z2)).trans z2⟩
      have Q0 := hid q0
      clear q0
      go_region_held3 (fun w' => (w'.cell? ⟨w.heap.size, 0, none⟩ = some (.int .i64 M) ∧ w'.cell? ⟨w.heap.size, 1, none⟩ = some (.slice a n c))) (first | go_keep | exact Q0.out _ _ (by assumption) (by first | assumption | (refine ⟨?_, ?_⟩ <;> assumption) | simp [*]))
        (first | (go_at_call 74; refine (s_l2Reached M 1 _ _ _ l _ (HA.out.below (by go_grown)) HG.out ⟨by omega, by omega⟩).mono ?_; rintro e w5 ⟨g5, c5, rfl, -, hb5⟩; rw [HQ.out]; obtain ⟨hc5, hf5⟩ := bcell hb5))
      all_goals
        have HB := hid (bstep BA.out (bstep (by go_grown) hb5 : Below wA.heap.size wA w5))
        clear hb5
        go_wp2
        go_ret
        exact ⟨ret_bool E.out, HB.out⟩
    · have e1 : ((n : Int) == (M : Int)) = false := by simp [hn]
      have E := hid (show false = ringB M l by simp [ringB, hL, hn])
      clear hq hL hn
      go_enter Try.func31, Try.ntmps31
      go_upto_region 1 with fail
      have n0 : (w.alloc (.cells #[.int .i64 M, .slice a n c] 31)).cell? ⟨w.heap.size, 0, none⟩ = some (.int .i64 M) := by rw [cell_of_row _ _ _ _ _ (0, 0) (heap_alloc_new _ _)]; rfl
      have n1 : (w.alloc (.cells #[.int .i64 M, .slice a n c] 31)).cell? ⟨w.heap.size, 1, none⟩ = some (.slice a n c) := by rw [cell_of_row _ _ _ _ _ (0, 0) (heap_alloc_new _ _)]; rfl
      have HA := hid (H.out.below (by go_grown : Below w.heap.size w (w.alloc (.cells #[.int .i64 M, .slice a n c] 31))))
      have BA := hid (by go_grown : Below w.heap.size w (w.alloc (.cells #[.int .i64 M, .slice a n c] 31)))
      have hzA : w.heap.size < (w.alloc (.cells #[.int .i64 M, .slice a n c] 31)).heap.size := by simp
      generalize w.alloc (.cells #[.int .i64 M, .slice a n c] 31) = wA at *
      have q0 : ∀ wy w5 : World, Below wy.heap.size wy w5 → (wy.cell? ⟨w.heap.size, 0, none⟩ = some (.int .i64 M) ∧ wy.cell? ⟨w.heap.size, 1, none⟩ = some (.slice a n c)) → (w5.cell? ⟨w.heap.size, 0, none⟩ = some (.int .i64 M) ∧ w5.cell? ⟨w.heap.size, 1, none⟩ = some (.slice a n c)) :=
        fun wy w5 hb ⟨z1, z2⟩ => ⟨(hb.cell (World.block_lt_of_cell? wy _ z1)).trans z1, (hb.cell (World.block_lt_of_cell? wy _ z2)).trans z2⟩
      have Q0 := hid q0
      clear q0
      go_region_held3 (fun w' => (w'.cell? ⟨w.heap.size, 0, none⟩ = some (.int .i64 M) ∧ w'.cell? ⟨w.heap.size, 1, none⟩ = some (.slice a n c))) (first | go_keep | exact Q0.out _ _ (by assumption) (by first | assumption | (refine ⟨?_, ?_⟩ <;> assumption) | simp [*]))
        (first | (go_at_call 74; refine (s_l2Reached M 1 _ _ _ l _ (HA.out.below (by go_grown)) HG.out ⟨by omega, by omega⟩).mono ?_; rintro e w5 ⟨g5, c5, rfl, -, hb5⟩; rw [HQ.out]; obtain ⟨hc5, hf5⟩ := bcell hb5))
      all_goals
        have HB := hid (bstep BA.out (bstep (by go_grown) hb5 : Below wA.heap.size wA w5))
        clear hb5
        go_wp2
        go_ret
        exact ⟨ret_bool E.out, HB.out⟩
  · obtain ⟨q, hQ⟩ : ∃ q, (reachL M l 0 1).length = q := ⟨_, rfl⟩
    have E := hid (show false = ringB M l by simp [ringB]; intro _; omega)
    rw [hQ] at hq
    have e2 : ((q : Int) == (M : Int)) = false := by simp; omega
    have HQ := hid hQ
    clear hq hL hQ
    go_enter Try.func31, Try.ntmps31
    go_upto_region 1 with fail
    have n0 : (w.alloc (.cells #[.int .i64 M, .slice a n c] 31)).cell? ⟨w.heap.size, 0, none⟩ = some (.int .i64 M) := by rw [cell_of_row _ _ _ _ _ (0, 0) (heap_alloc_new _ _)]; rfl
    have n1 : (w.alloc (.cells #[.int .i64 M, .slice a n c] 31)).cell? ⟨w.heap.size, 1, none⟩ = some (.slice a n c) := by rw [cell_of_row _ _ _ _ _ (0, 0) (heap_alloc_new _ _)]; rfl
    have HA := hid (H.out.below (by go_grown : Below w.heap.size w (w.alloc (.cells #[.int .i64 M, .slice a n c] 31))))
    have BA := hid (by go_grown : Below w.heap.size w (w.alloc (.cells #[.int .i64 M, .slice a n c] 31)))
    have hzA : w.heap.size < (w.alloc (.cells #[.int .i64 M, .slice a n c] 31)).heap.size := by simp
    generalize w.alloc (.cells #[.int .i64 M, .slice a n c] 31) = wA at *
    refine wp_region_noPanic ?_
    refine wp_region_held_drew (S := fun w' => (w'.cell? ⟨w.heap.size, 0, none⟩ = some (.int .i64 M) ∧ w'.cell? ⟨w.heap.size, 1, none⟩ = some (.slice a n c))) (by kernel_rfl) (by exact ⟨n0, n1⟩) (fun hHeld => ?_)
    refine wpAnyH_take' (i := 0) (v := ?_) rfl (by kernel_rfl) (by kernel_rfl) (by kernel_rfl) (fun _ _ _ h => h) (Or.inl ⟨by rfl, ?_⟩) (by assumption) ?_
    rotate_left
    · (intro w' hSw; (try dsimp only at hSw); go_simp; all_goals with_reducible rfl)
    try simp only [Act.put, List.setIfInBounds_toArray, List.set_cons_zero, List.set_cons_succ]
    refine wpAnyH_take' (i := 3) (v := ?_) rfl (by kernel_rfl) (by kernel_rfl) (by kernel_rfl) (fun _ _ _ h => h) (Or.inl ⟨by rfl, ?_⟩) (by assumption) ?_
    rotate_left
    · (intro w' hSw; (try dsimp only at hSw); go_simp; all_goals with_reducible rfl)
    try simp only [Act.put, List.setIfInBounds_toArray, List.set_cons_zero, List.set_cons_succ]
    refine wpAnyH_take' (i := 4) (v := ?_) rfl (by kernel_rfl) (by kernel_rfl) (by kernel_rfl) (fun _ _ _ h => h) (Or.inl ⟨by rfl, ?_⟩) (by assumption) ?_
    rotate_left
    · (intro w' hSw; (try dsimp only at hSw); go_simp; all_goals with_reducible rfl)
    try simp only [Act.put, List.setIfInBounds_toArray, List.set_cons_zero, List.set_cons_succ]
    refine wpAnyH_ready (rs := [1]) (by kernel_rfl) (by simp) ?_
    refine allReadyH_cons' rfl (fun K hK => ?_) AllReadyH.nil
    go_simp
    go_at_call 74
    refine (s_l2Reached M 1 _ _ _ l _ (HA.out.below (by go_grown)) HG.out ⟨by omega, by omega⟩).mono ?_
    rintro e w5 ⟨g5, c5, rfl, -, hb5⟩
    rw [HQ.out]
    refine hK.out _ _ ⟨(hb5.cell (p := ⟨w.heap.size, 0, none⟩) hzA).trans n0, (hb5.cell (p := ⟨w.heap.size, 1, none⟩) hzA).trans n1⟩ (fun hHeld5 => ?_)
    clear hK K
    try simp only [Act.put, List.setIfInBounds_toArray, List.set_cons_zero, List.set_cons_succ]
    refine wpAnyH_take' (i := 2) (v := ?_) rfl (by kernel_rfl) (by kernel_rfl) (by kernel_rfl) (fun _ _ _ h => h) (Or.inl ⟨by rfl, ?_⟩) (by assumption) ?_
    rotate_left
    · (intro w' hSw; (try dsimp only at hSw); go_simp; all_goals with_reducible rfl)
    try simp only [Act.put, List.setIfInBounds_toArray, List.set_cons_zero, List.set_cons_succ]
    refine wpAnyH_take' (i := 5) (v := ?_) rfl (by kernel_rfl) (by kernel_rfl) (by kernel_rfl) (fun _ _ _ h => h) (Or.inl ⟨by rfl, ?_⟩) (by assumption) ?_
    rotate_left
    · (intro w' hSw; (try dsimp only at hSw); go_simp; all_goals with_reducible rfl)
    try simp only [Act.put, List.setIfInBounds_toArray, List.set_cons_zero, List.set_cons_succ]
    refine wpAnyH_take' (i := 6) (v := ?_) rfl (by kernel_rfl) (by kernel_rfl) (by kernel_rfl) (fun _ _ _ h => h) (Or.inl ⟨by rfl, ?_⟩) (by assumption) ?_
    rotate_left
    · (intro w' hSw; (try dsimp only at hSw); go_simp; all_goals with_reducible rfl)
    try simp only [Act.put, List.setIfInBounds_toArray, List.set_cons_zero, List.set_cons_succ]
    refine wpAnyH_take' (i := 7) (v := undef) rfl (by kernel_rfl) (by kernel_rfl) (by kernel_rfl) (fun _ _ _ h => h) (Or.inr ⟨by rfl, rfl⟩) (by assumption) ?_
    try simp only [Act.put, List.setIfInBounds_toArray, List.set_cons_zero, List.set_cons_succ]
    refine wpAnyH_take' (i := 8) (v := undef) rfl (by kernel_rfl) (by kernel_rfl) (by kernel_rfl) (fun _ _ _ h => h) (Or.inr ⟨by rfl, rfl⟩) (by assumption) ?_
    try simp only [Act.put, List.setIfInBounds_toArray, List.set_cons_zero, List.set_cons_succ]
    refine wpAnyH_take' (i := 9) (v := undef) rfl (by kernel_rfl) (by kernel_rfl) (by kernel_rfl) (fun _ _ _ h => h) (Or.inr ⟨by rfl, rfl⟩) (by assumption) ?_
    try simp only [Act.put, List.setIfInBounds_toArray, List.set_cons_zero, List.set_cons_succ]
    refine wpAnyH_take' (i := 10) (v := undef) rfl (by kernel_rfl) (by kernel_rfl) (by kernel_rfl) (fun _ _ _ h => h) (Or.inr ⟨by rfl, rfl⟩) (by assumption) ?_
    try simp only [Act.put, List.setIfInBounds_toArray, List.set_cons_zero, List.set_cons_succ]
    refine wpAnyH_take' (i := 11) (v := undef) rfl (by kernel_rfl) (by kernel_rfl) (by kernel_rfl) (fun _ _ _ h => h) (Or.inr ⟨by rfl, rfl⟩) (by assumption) ?_
    try simp only [Act.put, List.setIfInBounds_toArray, List.set_cons_zero, List.set_cons_succ]
    refine wpAnyH_take' (i := 12) (v := undef) rfl (by kernel_rfl) (by kernel_rfl) (by kernel_rfl) (fun _ _ _ h => h) (Or.inr ⟨by rfl, rfl⟩) (by assumption) ?_
    try simp only [Act.put, List.setIfInBounds_toArray, List.set_cons_zero, List.set_cons_succ]
    refine wpAnyH_take' (i := 13) (v := ?_) rfl (by kernel_rfl) (by kernel_rfl) (by kernel_rfl) (fun _ _ _ h => h) (Or.inl ⟨by rfl, ?_⟩) (by assumption) ?_
    rotate_left
    · (intro w' hSw; (try dsimp only at hSw); go_simp; all_goals with_reducible rfl)
    try simp only [Act.put, List.setIfInBounds_toArray, List.set_cons_zero, List.set_cons_succ]
    refine wpAnyH_take' (i := 14) (v := ?_) rfl (by kernel_rfl) (by kernel_rfl) (by kernel_rfl) (fun _ _ _ h => h) (Or.inl ⟨by rfl, ?_⟩) (by assumption) ?_
    rotate_left
    · (intro w' hSw; (try dsimp only at hSw); go_simp; all_goals with_reducible rfl)
    try simp only [Act.put, List.setIfInBounds_toArray, List.set_cons_zero, List.set_cons_succ]
    refine wpAnyH_done (by kernel_rfl) ?_ _
    refine NoPanic.normal ?_
    have HB := hid (bstep BA.out (bstep (by go_grown) hb5 : Below wA.heap.size wA w5))
    clear hb5
    go_wp2
    go_ret
    exact ⟨ret_bool E.out, HB.out⟩

/-- What IsRing, IsTreeNetwork return. -/
noncomputable def ringR (N : Int) (l : List Pip) : Bool × Bool := if goodNet N l = true then (ringB N l, true) else (false, false)
noncomputable def treeR (N : Int) (l : List Pip) : Bool × Bool := if goodNet N l = true then (treeB N l, true) else (false, false)
theorem i_IsRing (N : Int) (a : Option Addr) (n c : Nat) (l : List Pip) (w : World) (h : QAt w a n l) (hn : n ≤ 1048576) (x y : Bool) (hR : ringR N l = (x, y)) :
    Calls Try.prog 25 #[.agg #[.int .i64 N, .slice a n c]] w fun e w' => e = .returned (.tuple #[.bool x, .bool y]) ∧ Below w.heap.size w w' := by
  have H := hid h
  clear h
  cases h1 : goodNet N l
  · have HG := hid h1
    have e0 : ringR N l = (false, false) := by simp [ringR, h1]
    rw [e0] at hR
    cases hR
    clear h1 e0
    go_enter Try.func25, Try.ntmps25
    go_wp2_with fail
    refine (i_IsValidNetwork N _ _ _ l _ (H.out.below (by go_grown)) (by omega)).mono ?_
    rintro e w1 ⟨rfl, hb1⟩
    rw [HG.out]
    obtain ⟨hc_w1, hf_w1⟩ := bcell hb1
    have hz_w1_0 : w.heap.size < w1.heap.size := by have := hb1.size; simp only [World.size_alloc] at this; omega
    have HB1 := hid (bstep (by go_grown) hb1 : Below w.heap.size w w1)
    go_wp2
    go_ret2
    exact ⟨rfl, HB1.out⟩
  · have hN := (goodNet_get h1).1
    obtain ⟨M, rfl⟩ : ∃ M : Nat, N = M := ⟨N.toNat, by omega⟩
    have HG := hid h1
    have e0 : ringR M l = (ringB M l, true) := by simp [ringR, h1]
    rw [e0] at hR
    cases hR
    clear h1 e0 hN
    obtain ⟨z, hz⟩ : ∃ z, ringB M l = z := ⟨_, rfl⟩
    rw [hz]
    have HZ := hid hz
    clear hz
    go_enter Try.func25, Try.ntmps25
    go_wp2_with fail
    refine (i_IsValidNetwork M _ _ _ l _ (H.out.below (by go_grown)) (by omega)).mono ?_
    rintro e w1 ⟨rfl, hb1⟩
    rw [HG.out]
    obtain ⟨hc_w1, hf_w1⟩ := bcell hb1
    have hz_w1_0 : w.heap.size < w1.heap.size := by have := hb1.size; simp only [World.size_alloc] at this; omega
    have HB1 := hid (bstep (by go_grown) hb1 : Below w.heap.size w w1)
    go_wp2_with fail
    refine (i_isRing M _ _ _ l _ (H.out.below HB1.out) HG.out).mono ?_
    rintro e w2 ⟨rfl, hb2⟩
    rw [HZ.out]
    go_wp2
    go_ret2
    exact ⟨rfl, bstep HB1.out hb2⟩
theorem i_IsTreeNetwork (N : Int) (a : Option Addr) (n c : Nat) (l : List Pip) (w : World) (h : QAt w a n l) (hn : n ≤ 1048576) (x y : Bool) (hR : treeR N l = (x, y)) :
    Calls Try.prog 27 #[.agg #[.int .i64 N, .slice a n c]] w fun e w' => e = .returned (.tuple #[.bool x, .bool y]) ∧ Below w.heap.size w w' := by
  have H := hid h
  clear h
  cases h1 : goodNet N l
  · have HG := hid h1
    have e0 : treeR N l = (false, false) := by simp [treeR, h1]
    rw [e0] at hR
    cases hR
    clear h1 e0
    go_enter Try.func27, Try.ntmps27
    go_wp2_with fail
    refine (i_IsValidNetwork N _ _ _ l _ (H.out.below (by go_grown)) (by omega)).mono ?_
    rintro e w1 ⟨rfl, hb1⟩
    rw [HG.out]
    obtain ⟨hc_w1, hf_w1⟩ := bcell hb1
    have hz_w1_0 : w.heap.size < w1.heap.size := by have := hb1.size; simp only [World.size_alloc] at this; omega
    have HB1 := hid (bstep (by go_grown) hb1 : Below w.heap.size w w1)
    go_wp2
    go_ret2
    exact ⟨rfl, HB1.out⟩
  · have hN := (goodNet_get h1).1
    obtain ⟨M, rfl⟩ : ∃ M : Nat, N = M := ⟨N.toNat, by omega⟩
    have HG := hid h1
    have e0 : treeR M l = (treeB M l, true) := by simp [treeR, h1]
    rw [e0] at hR
    cases hR
    clear h1 e0 hN
    obtain ⟨z, hz⟩ : ∃ z, treeB M l = z := ⟨_, rfl⟩
    rw [hz]
    have HZ := hid hz
    clear hz
    go_enter Try.func27, Try.ntmps27
    go_wp2_with fail
    refine (i_IsValidNetwork M _ _ _ l _ (H.out.below (by go_grown)) (by omega)).mono ?_
    rintro e w1 ⟨rfl, hb1⟩
    rw [HG.out]
    obtain ⟨hc_w1, hf_w1⟩ := bcell hb1
    have hz_w1_0 : w.heap.size < w1.heap.size := by have := hb1.size; simp only [World.size_alloc] at this; omega
    have HB1 := hid (bstep (by go_grown) hb1 : Below w.heap.size w w1)
    go_wp2_with fail
    refine (i_isTree M _ _ _ l _ (H.out.below HB1.out) HG.out).mono ?_
    rintro e w2 ⟨rfl, hb2⟩
    rw [HZ.out]
    go_wp2
    go_ret2
    exact ⟨rfl, bstep HB1.out hb2⟩

end Go.Proofs.Ytikjighlnpdgiaa

