/-
  Lists of curves: rows of a slice of slices, and sums of fractions (plain).
-/
import Derived.Test.YtpcbeapajlchgaaCurveQ
import Derived.Test.YtpcbeapajlchgaaCurveC
set_option linter.unusedVariables false
set_option linter.unusedSimpArgs false
namespace Go.Proofs.Ytpcbeapajlchgaa
open Go.RowKit

theorem SAt.stay {α : Type} [Inhabited α] {f : α → List Value} {s n : Nat} {w w' : World} {a : Option Addr} {l : List α} {row : Option Nat} (h : SAt f s w a n l) (hg : w.grownBy w' row) (hne : ∀ b o, a = some ⟨b, o, none⟩ → some b ≠ row) : SAt f s w' a n l :=
  ⟨h.1, fun k hk => by
    obtain ⟨b, o, h1, h2, h3⟩ := h.2 k hk
    refine ⟨b, o, h1, Nat.lt_of_lt_of_le h2 hg.size, fun j hj => ?_⟩
    rw [← h3 j hj]
    unfold World.cell?
    rw [hg.block b h2 (hne b o h1)]⟩
/-- A row of a slice of slices: its value. -/
abbrev CRow := Option Addr × Nat × Nat
def rf (r : CRow) : List Value := [.slice r.1 r.2.1 r.2.2]
theorem rf_len (r : CRow) : (rf r).length = 1 := rfl
theorem rf_one (r : CRow) : ∀ u ∈ rf r, u.oneCell' = true := by intro u hu; simp [rf] at hu; subst hu; rfl
def row (R : List CRow) (k : Nat) : CRow := R[k]?.getD default
/-- Curve k of a list. -/
def lk (L : List (List Pt)) (k : Nat) : List Pt := L[k]?.getD []
/-- A list of curves that can be read. -/
def LAt (w : World) (a : Option Addr) (n : Nat) (L : List (List Pt)) : Prop := L.length = n ∧ ∃ R : List CRow, SAt rf 1 w a n R ∧ ∀ k, k < n → PAt w (row R k).1 (row R k).2.1 (lk L k)
theorem LAt.below {w w' : World} {a : Option Addr} {n : Nat} {L : List (List Pt)} (h : LAt w a n L) (hb : Below w.heap.size w w') : LAt w' a n L :=
  let ⟨h0, R, h1, h2⟩ := h
  ⟨h0, R, h1.below hb, fun k hk => (h2 k hk).below hb⟩
theorem LAt.get {w : World} {a : Option Addr} {n : Nat} {L : List (List Pt)} (h : LAt w a n L) (k : Nat) (hk : k < n) :
    ∃ b off pa pn pc, a = some ⟨b, off, none⟩ ∧ b < w.heap.size ∧ w.cell? ⟨b, off + k, none⟩ = some (.slice pa pn pc) ∧ PAt w pa pn (lk L k) := by
  obtain ⟨h0, R, hs, hr⟩ := h
  obtain ⟨b, off, h1, h2, h3⟩ := hs.2 k hk
  have := h3 0 (by decide)
  simp only [Nat.mul_one, Nat.add_zero] at this
  exact ⟨b, off, _, _, _, h1, h2, this, hr k hk⟩
theorem LAt.nil (w : World) (a : Option Addr) : LAt w a 0 [] := ⟨rfl, [], SAt.nil _ _, fun k hk => absurd hk (by omega)⟩

/-- The sum of two fractions. -/
def addP (x y : Int × Int) : Int × Int := (lowN (x.1 * y.2 + y.1 * x.2) (x.2 * y.2), lowD (x.1 * y.2 + y.1 * x.2) (x.2 * y.2))
def sumK (v : Nat → Int × Int) : Nat → Int × Int
  | 0 => (0, 1)
  | k + 1 => addP (sumK v k) (v k)
/-- A fraction that a curve has. -/
abbrev small (y : Int × Int) : Prop := (0 < y.2 ∧ y.2 ≤ 1000) ∧ (-4000000 ≤ y.1 ∧ y.1 ≤ 4000000)
abbrev sumOk (k : Nat) (x : Int × Int) : Prop := (0 < x.2 ∧ x.2 ≤ 1000 ^ k) ∧ (-(4000 * (k : Int) * 1000 ^ k) ≤ x.1 ∧ x.1 ≤ 4000 * (k : Int) * 1000 ^ k)
abbrev addOk (x y : Int × Int) : Prop := (-4000000000000000000 ≤ x.1 * y.2 ∧ x.1 * y.2 ≤ 4000000000000000000) ∧ (-4000000000000000000 ≤ y.1 * x.2 ∧ y.1 * x.2 ≤ 4000000000000000000) ∧ fine (x.1 * y.2 + y.1 * x.2) ∧ fine (x.2 * y.2) ∧ 0 < x.2 * y.2
theorem add_fits {k : Nat} {x y : Int × Int} (hk : k < 4) (hx : sumOk k x) (hy : small y) : addOk x y ∧ sumOk (k + 1) (addP x y) := by
  obtain ⟨⟨x1, x2⟩, x3, x4⟩ := hx
  obtain ⟨⟨y1, y2⟩, y3, y4⟩ := hy
  have hp : 0 < x.2 * y.2 := Int.mul_pos x1 y1
  have key : ∀ (D : Int), 0 ≤ D → D ≤ 1000000000 → x.2 ≤ D → ∀ (M : Int), 0 ≤ M → M ≤ 12000000000000 → -M ≤ x.1 → x.1 ≤ M → ∀ D' M' : Int, D' = D * 1000 → M' = M * 1000 + 4000000 * D → M' ≤ 1000000000000000000 → addOk x y ∧ (0 < (addP x y).2 ∧ (addP x y).2 ≤ D') ∧ (-M' ≤ (addP x y).1 ∧ (addP x y).1 ≤ M') := by
    intro D d0 d1 d2 M m0 m1 m2 m3 D' M' e1 e2 e3
    have p1 := mul_in (x := x.1) (y := y.2) (A := M) (B := 1000) ⟨m2, m3⟩ ⟨by omega, y2⟩
    have p2 := mul_in (x := y.1) (y := x.2) (A := 4000000) (B := D) ⟨y3, y4⟩ ⟨by omega, d2⟩
    have p3 := mul_in (x := x.2) (y := y.2) (A := D) (B := 1000) ⟨by omega, d2⟩ ⟨by omega, y2⟩
    have hn : -M' ≤ x.1 * y.2 + y.1 * x.2 ∧ x.1 * y.2 + y.1 * x.2 ≤ M' := by omega
    have q1 := lowN_fine (b := x.2 * y.2) hp hn
    have q2 := lowD_le (a := x.1 * y.2 + y.1 * x.2) hp
    have q3 := lowD_pos (a := x.1 * y.2 + y.1 * x.2) hp
    refine ⟨⟨by omega, by omega, by omega, by omega, hp⟩, ⟨q3, ?_⟩, q1⟩
    show lowD _ _ ≤ D'
    omega
  have hc : k = 0 ∨ k = 1 ∨ k = 2 ∨ k = 3 := by omega
  rcases hc with rfl | rfl | rfl | rfl
  · obtain ⟨k1, k2, k3⟩ := key 1 (by omega) (by omega) (by simpa using x2) 0 (by omega) (by omega) (by simpa using x3) (by simpa using x4) 1000 4000000 (by omega) (by omega) (by omega)
    exact ⟨k1, by simpa using k2, by simpa using k3⟩
  · obtain ⟨k1, k2, k3⟩ := key 1000 (by omega) (by omega) (by simpa using x2) 4000000 (by omega) (by omega) (by simpa using x3) (by simpa using x4) 1000000 8000000000 (by omega) (by omega) (by omega)
    exact ⟨k1, by simpa using k2, by simpa using k3⟩
  · obtain ⟨k1, k2, k3⟩ := key 1000000 (by omega) (by omega) (by simpa using x2) 8000000000 (by omega) (by omega) (by simpa using x3) (by simpa using x4) 1000000000 12000000000000 (by omega) (by omega) (by omega)
    exact ⟨k1, by simpa using k2, by simpa using k3⟩
  · obtain ⟨k1, k2, k3⟩ := key 1000000000 (by omega) (by omega) (by simpa using x2) 12000000000000 (by omega) (by omega) (by simpa using x3) (by simpa using x4) 1000000000000 16000000000000000 (by omega) (by omega) (by omega)
    exact ⟨k1, by simpa using k2, by simpa using k3⟩
theorem sum_fit {v : Nat → Int × Int} {n : Nat} (hn : n ≤ 4) (hv : ∀ j, j < n → small (v j)) : ∀ k, k ≤ n → sumOk k (sumK v k)
  | 0, _ => by simp [sumOk, sumK]
  | k + 1, hk => (add_fits (by omega) (sum_fit hn hv k (by omega)) (hv k (by omega))).2

/-- The head and the flow of a curve, as fractions. -/
noncomputable def headP (l : List Pt) (q : Int) : Int × Int := ((headR l q).1, (headR l q).2.1)
noncomputable def flowP (l : List Pt) (q : Int) : Int × Int := if (pt l 0).2 < q then (0, 1) else if q < (pt l (l.length - 1)).2 then ((pt l (l.length - 1)).1, 1) else ((flowR l q).1, (flowR l q).2.1)

theorem headR_ok {l : List Pt} {q : Int} (hg : goodCurve l = true) (hq : hasQ l l.length q = true) : headR l q = ((headP l q).1, (headP l q).2, true) ∧ small (headP l q) := by
  obtain ⟨h1, h2, h3⟩ := h_fit hg rfl hq
  have e : headR l q = (hN l l.length q, hD l l.length q, true) := by unfold headR; rw [if_pos (by rw [hg, hq]; rfl)]
  unfold headP
  rw [e]
  exact ⟨rfl, h3, h2⟩
theorem headR_bad {l : List Pt} {q : Int} (h : goodCurve l = false ∨ hasQ l l.length q = false) : headR l q = (0, 0, false) := by
  unfold headR
  rw [if_neg]
  rcases h with h | h <;> simp [h]
theorem flow_fit {l : List Pt} {q : Int} (hg : goodCurve l = true) (hq : hasH l l.length q = true) : flowR l q = ((flowR l q).1, (flowR l q).2.1, true) ∧ small ((flowR l q).1, (flowR l q).2.1) := by
  have hs := segH_is (seg_head hg rfl hq)
  have hl := good_len hg rfl
  have hp := pt_flow hg rfl (k := l.length - 1) (by omega)
  have hp0 := pt_flow hg rfl (k := 0) (by omega)
  have hq2 : 0 ≤ q ∧ q ≤ 1000 := by have := inR_iff.1 hq; omega
  have e : flowR l q = (lowN (flN l (segH l q) q) (flD l (segH l q)), lowD (flN l (segH l q) q) (flD l (segH l q)), true) := by unfold flowR; rw [if_pos (by rw [hg, hq]; rfl)]
  rw [e]
  obtain ⟨k1, k2, -, -⟩ := hs
  obtain ⟨p1, p2⟩ := pt_flow hg rfl (k := segH l q - 1) (by omega)
  obtain ⟨p3, p4⟩ := pt_flow hg rfl (k := segH l q) (by omega)
  obtain ⟨p5, p6⟩ := pt_step hg rfl (k := segH l q) (by omega) (by omega)
  have q1 := mul_in (x := (pt l (segH l q - 1)).1) (y := q - (pt l (segH l q)).2) (A := 1000) (B := 1000) (by omega) (by omega)
  have q2 := mul_in (x := (pt l (segH l q)).1) (y := (pt l (segH l q - 1)).2 - q) (A := 1000) (B := 1000) (by omega) (by omega)
  simp only [Int.reduceMul] at q1 q2
  have hd : 0 < flD l (segH l q) ∧ flD l (segH l q) ≤ 1000 := by unfold flD; omega
  have hnn : -4000000 ≤ flN l (segH l q) q ∧ flN l (segH l q) q ≤ 4000000 := by unfold flN; omega
  have c1 := lowN_fine (a := flN l (segH l q) q) hd.1 hnn
  have c2 := lowD_le (a := flN l (segH l q) q) hd.1
  have c3 := lowD_pos (a := flN l (segH l q) q) hd.1
  exact ⟨rfl, ⟨c3, by dsimp only; omega⟩, c1⟩
theorem flowP_small {l : List Pt} (q : Int) (hg : goodCurve l = true) : small (flowP l q) := by
  have hl := good_len hg rfl
  have hp := pt_flow hg rfl (k := l.length - 1) (by omega)
  unfold flowP
  split
  · exact ⟨by decide, by decide⟩
  · split
    · exact ⟨by dsimp only; omega, by dsimp only; omega⟩
    · exact (flow_fit hg (inR_iff.2 ⟨by omega, by omega⟩)).2

/-- A fraction in lowest terms stays. -/
theorem low_low {a b : Int} (h : 0 < b) : gd (lowN a b) (lowD a b) = 1 := by
  have hg := gd_pos (a := a) h
  obtain ⟨x, hx⟩ := gd_dvdN a b
  obtain ⟨y, hy⟩ := gd_dvd a b
  have e1 : lowN a b = x := by
    unfold lowN
    generalize hG : gd a b = G at *
    rw [hx]; exact Int.mul_tdiv_cancel_left _ (by omega)
  have e2 : lowD a b = y := by
    unfold lowD
    generalize hG : gd a b = G at *
    rw [hy]; exact Int.mul_ediv_cancel_left _ (by omega)
  rw [e1, e2]
  have e3 : gd a b = gd (gd a b * x) (gd a b * y) := by rw [← hx, ← hy]
  have e4 : gd (gd a b * x) (gd a b * y) = gd a b * gd x y := by
    generalize hG : gd a b = G at *
    unfold gd
    rw [Int.natAbs_mul, Int.natAbs_mul, Nat.gcd_mul_left, Int.natCast_mul]
    congr 1
    omega
  rw [e4] at e3
  have e5 : gd a b * 1 = gd a b * gd x y := by omega
  exact (Int.eq_of_mul_eq_mul_left (by omega) e5).symm
theorem low_same {a b : Int} (h : gd a b = 1) : lowN a b = a ∧ lowD a b = b := by
  unfold lowN lowD
  rw [h]
  simp
theorem sum_low (v : Nat → Int × Int) {n : Nat} (hv : ∀ j, j < n → 0 < (v j).2) : ∀ k, k ≤ n → gd (sumK v k).1 (sumK v k).2 = 1 ∧ 0 < (sumK v k).2
  | 0, _ => by simp [sumK, gd]
  | k + 1, hk => by
    have ih := sum_low v hv k (by omega)
    have hp : 0 < (sumK v k).2 * (v k).2 := Int.mul_pos ih.2 (hv k (by omega))
    exact ⟨low_low hp, lowD_pos hp⟩
theorem add_zero {x : Int × Int} (h : gd x.1 x.2 = 1) : addP x (0, 1) = x := by
  unfold addP
  simp only [Int.mul_one, Int.zero_mul, Int.add_zero]
  rw [(low_same h).1, (low_same h).2]
/-- The sum of two fractions is their sum. -/
theorem add_eq {x y : Int × Int} (hx : 0 < x.2) (hy : 0 < y.2) : (addP x y).1 * (x.2 * y.2) = (x.1 * y.2 + y.1 * x.2) * (addP x y).2 := low_eq (Int.mul_pos hx hy)
theorem add_first {y : Int × Int} (h : gd y.1 y.2 = 1) : addP (0, 1) y = y := by
  unfold addP
  simp only [Int.zero_mul, Int.mul_one, Int.one_mul, Int.zero_add]
  rw [(low_same h).1, (low_same h).2]

theorem all_bad {L : List (List Pt)} {p : List Pt → Bool} {k : Nat} (hk : k < L.length) (h : p (lk L k) = false) : L.all p = false := by
  rw [List.all_eq_false]
  refine ⟨lk L k, ?_, by simp [h]⟩
  unfold lk
  rw [List.getElem?_eq_getElem hk]
  exact List.getElem_mem hk
theorem all_good {L : List (List Pt)} {p : List Pt → Bool} (h : ∀ k, k < L.length → p (lk L k) = true) : L.all p = true := by
  rw [List.all_eq_true]
  intro x hx
  obtain ⟨j, hj, rfl⟩ := List.mem_iff_getElem.1 hx
  have := h j hj
  unfold lk at this
  rw [List.getElem?_eq_getElem hj] at this
  exact this
theorem all_get {L : List (List Pt)} {p : List Pt → Bool} (h : L.all p = true) {k : Nat} (hk : k < L.length) : p (lk L k) = true := by
  cases e : p (lk L k)
  · rw [all_bad hk e] at h; cases h
  · rfl
/-- What SeriesHead and ParallelFlow return. -/
noncomputable def seriesR (L : List (List Pt)) (q : Int) : Int × Int × Bool := if (inR (L.length : Int) 1 4 && L.all (fun l => goodCurve l && hasQ l l.length q)) = true then ((sumK (fun k => headP (lk L k) q) L.length).1, (sumK (fun k => headP (lk L k) q) L.length).2, true) else (0, 0, false)
noncomputable def parR (L : List (List Pt)) (q : Int) : Int × Int × Bool := if (inR (L.length : Int) 1 4 && L.all goodCurve && inR q 0 1000) = true then ((sumK (fun k => flowP (lk L k) q) L.length).1, (sumK (fun k => flowP (lk L k) q) L.length).2, true) else (0, 0, false)

end Go.Proofs.Ytpcbeapajlchgaa
