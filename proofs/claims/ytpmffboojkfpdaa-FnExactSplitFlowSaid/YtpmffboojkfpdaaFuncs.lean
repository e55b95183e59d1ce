/-
  What slices.IndexFunc and slices.ContainsFunc do over a test that only reads.
-/
import Derived.Test.YtpmffboojkfpdaaInts
set_option linter.unusedVariables false
namespace Go.Proofs.Ytpmffboojkfpdaa
open Go.RowKit

def enters (F : Nat) : Prop := ∀ (args : Array Value) (w : World), (callFunc F args).run Try.prog w = .ok (.enter F args) w

/-- The first index at which a test says yes, -1 if there is none. -/
def indexFn (p : Int → Bool) (l : List Int) : Int := match l.findIdx? p with | some i => (i : Int) | none => -1

theorem indexFn_hit (p : Int → Bool) (l : List Int) (k : Nat) (hk : k < l.length) (hp : p (l[k]?.getD 0) = true) (hm : ∀ j, j < k → p (l[j]?.getD 0) = false) : indexFn p l = k := by
  unfold indexFn
  have : l.findIdx? p = some k := by
    rw [List.findIdx?_eq_some_iff_getElem]
    refine ⟨hk, by rw [List.getElem?_eq_getElem hk] at hp; exact hp, fun j hj => ?_⟩
    have := hm j hj
    rw [List.getElem?_eq_getElem (by omega)] at this
    simpa using this
  rw [this]

theorem indexFn_miss (p : Int → Bool) (l : List Int) (hm : ∀ j, j < l.length → p (l[j]?.getD 0) = false) : indexFn p l = -1 := by
  unfold indexFn
  have : l.findIdx? p = none := by
    rw [List.findIdx?_eq_none_iff]
    intro x hx
    obtain ⟨j, hj, rfl⟩ := List.mem_iff_getElem.1 hx
    have := hm j hj
    rw [List.getElem?_eq_getElem hj] at this
    exact this
  rw [this]

set_option maxHeartbeats 400000 in
theorem f_IndexFunc (F : Nat) (cs : Array Value) (p : Int → Bool) (hF : enters F) (a : Option Addr) (n c : Nat) (l : List Int) (w : World) (h : IntsAt w a n l) (hn : n ≤ 4194304)
    (H : ∀ x w', x ∈ l → Below w.heap.size w w' → Calls Try.prog F (#[.int .i64 x] ++ cs) w' fun e w'' => e = .returned (.bool (p x)) ∧ Below w'.heap.size w' w'') :
    Calls Try.prog 114 #[.slice a n c, .func (.func F) #[] cs] w fun e w' => e = .returned (.int .i64 (indexFn p l)) ∧ Below w.heap.size w w' := by
  unfold enters at hF
  have HC := hid H
  have HI := hid h
  clear h H
  go_enter Try.func114, Try.ntmps114
  go_wp2
  go_loopw [5, 8] (fun j i wr => ∃ k : Nat, k ≤ n ∧ i = .int .i64 k ∧ Hid (Below w.heap.size w wr ∧ ∀ j, j < k → p (l[j]?.getD 0) = false)) (fun _ i _ => n - (intOf i).toNat)
  case atStart => exact ⟨0, Nat.zero_le _, rfl, Below.refl _ _, fun j hj => absurd hj (by omega)⟩
  case round =>
    obtain ⟨k, hk, rfl, hh⟩ := hrel
    by_cases hlt : k < n
    · obtain ⟨b, off, rfl, hbw, hcell⟩ := (HI.out.below hh.out.1).2 k hlt
      have hm : l[k]?.getD 0 ∈ l := getD_mem l k (by have := HI.out.1; omega)
      have hfun := hid (HC.out _ _ hm hh.out.1)
      clear hm
      cases hp : p (l[k]?.getD 0)
      · go_wp2_with fail
        refine hfun.out.mono ?_
        rintro e w' ⟨rfl, hb⟩
        rw [hp]
        have HP := hid hp
        have HB := hid hb
        clear hp hb
        go_wp2
        go_roundw
        case rel =>
          refine ⟨k + 1, by omega, by go_num, bstep hh.out.1 HB.out, fun j hj => ?_⟩
          by_cases e : j = k
          · subst e; exact HP.out
          · exact hh.out.2 j (by omega)
        case measure => simp [intOf]; omega
      · go_wp2_with fail
        refine hfun.out.mono ?_
        rintro e w' ⟨rfl, hb⟩
        rw [hp]
        have HP := hid hp
        have HB := hid hb
        clear hp hb
        go_wp2
        go_ret
        refine ⟨ret_int ?_, bstep hh.out.1 HB.out⟩
        rw [indexFn_hit p l k (by have := HI.out.1; omega) HP.out hh.out.2]
    · go_wp2
      go_ret
      refine ⟨ret_int ?_, hh.out.1⟩
      rw [indexFn_miss p l (fun j hj => hh.out.2 j (by have := HI.out.1; omega))]

theorem indexFn_any (p : Int → Bool) (l : List Int) : decide (0 ≤ indexFn p l) = l.any p := by
  unfold indexFn
  cases h : l.findIdx? p with
  | none => 
    rw [List.findIdx?_eq_none_iff] at h
    symm; simp; intro x hx; simpa using h x hx
  | some i =>
    have hl : i < l.length := by
      obtain ⟨h1, _⟩ := List.findIdx?_eq_some_iff_getElem.1 h
      exact h1
    have : l.any p = true := by
      rw [List.any_eq_true]
      obtain ⟨h1, h2, _⟩ := List.findIdx?_eq_some_iff_getElem.1 h
      exact ⟨l[i], List.getElem_mem h1, h2⟩
    rw [this]; simp

theorem f_ContainsFunc (F : Nat) (cs : Array Value) (p : Int → Bool) (hF : enters F) (a : Option Addr) (n c : Nat) (l : List Int) (w : World) (h : IntsAt w a n l) (hn : n ≤ 4194304)
    (H : ∀ x w', x ∈ l → Below w.heap.size w w' → Calls Try.prog F (#[.int .i64 x] ++ cs) w' fun e w'' => e = .returned (.bool (p x)) ∧ Below w'.heap.size w' w'') :
    Calls Try.prog 88 #[.slice a n c, .func (.func F) #[] cs] w fun e w' => e = .returned (.bool (l.any p)) ∧ Below w.heap.size w w' := by
  have HF := hid (f_IndexFunc F cs p hF a n c l w h hn H)
  clear hF h H
  have HP := hid (indexFn_any p l)
  go_enter Try.func88, Try.ntmps88
  go_wp2_with fail
  refine HF.out.mono ?_
  rintro e w' ⟨rfl, hb⟩
  go_wp2
  go_ret
  exact ⟨ret_bool HP.out, hb⟩

end Go.Proofs.Ytpmffboojkfpdaa
