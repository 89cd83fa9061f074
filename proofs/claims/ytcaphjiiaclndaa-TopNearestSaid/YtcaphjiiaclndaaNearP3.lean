/- TopNearest: the plain law. -/
import Derived.Test.YtcaphjiiaclndaaNearB
namespace Go.Gh.Near
set_option linter.unusedVariables false
set_option linter.unusedSimpArgs false

theorem pd_low {m : Nat} {s : List (List Int)} (hv : Vs m s) : Pd m (lowP m s) := ⟨lowP_len, fun l hl => lowP_bd hv hl⟩

/- The library's sort of a few numbers. -/
def ins (x : Int) : List Int → List Int
  | [] => [x]
  | y :: r => if x < y then y :: ins x r else x :: y :: r
theorem ins_len (x : Int) : ∀ r : List Int, (ins x r).length = r.length + 1
  | [] => rfl
  | y :: r => by
    have := ins_len x r
    simp only [ins]
    split <;> simp only [List.length_cons] <;> omega
theorem ins_perm (x : Int) : ∀ r : List Int, (ins x r).Perm (x :: r)
  | [] => List.Perm.refl _
  | y :: r => by
    simp only [ins]
    split
    · exact ((ins_perm x r).cons y).trans (List.Perm.swap x y r)
    · exact List.Perm.refl _
theorem ins_desc {x : Int} : ∀ {r : List Int}, r.Pairwise (· ≥ ·) → (ins x r).Pairwise (· ≥ ·)
  | [], _ => by simp [ins]
  | y :: r, h => by
    have h' := List.pairwise_cons.1 h
    simp only [ins]
    split
    · rename_i hlt
      rw [List.pairwise_cons]
      refine ⟨fun z hz => ?_, ins_desc h'.2⟩
      rcases List.mem_cons.1 ((ins_perm x r).mem_iff.1 hz) with rfl | hz
      · show y ≥ z; omega
      · exact h'.1 z hz
    · rename_i hlt
      rw [List.pairwise_cons]
      refine ⟨fun z hz => ?_, h⟩
      rcases List.mem_cons.1 hz with rfl | hz
      · show x ≥ z; omega
      · have : y ≥ z := h'.1 z hz
        show x ≥ z; omega
def srt : List Int → List Int → List Int
  | r, [] => r
  | r, x :: q => srt (ins x r) q
theorem srt_perm : ∀ (q r : List Int), (srt r q).Perm (r ++ q)
  | [], r => by rw [srt, List.append_nil]
  | x :: q, r => by
    rw [srt]
    refine (srt_perm q (ins x r)).trans ?_
    refine ((ins_perm x r).append_right q).trans ?_
    exact List.perm_middle.symm
theorem srt_desc : ∀ (q r : List Int), r.Pairwise (· ≥ ·) → (srt r q).Pairwise (· ≥ ·)
  | [], _, h => h
  | x :: q, r, h => by rw [srt]; exact srt_desc q _ (ins_desc h)
def sorted (l : List Int) : List Int := (srt [] l).reverse
theorem sorted_perm (l : List Int) : (sorted l).Perm l := (List.reverse_perm _).trans (srt_perm l [])
theorem sorted_asc (l : List Int) : (sorted l).Pairwise (· ≤ ·) := by
  unfold sorted
  rw [List.pairwise_reverse]
  exact srt_desc l [] List.Pairwise.nil
theorem sorted_len (l : List Int) : (sorted l).length = l.length := (sorted_perm l).length_eq

theorem f44_eq {F : Nat} {x y : Int} : f44 F x y = some (decide (x < y)) := by
  unfold f44 f59
  rw [Option.bind_some, if_neg (by simp)]
theorem f38_p5_eq {F n : Nat} (hn : n ≤ 12) {L : List Int} (hL : L.length = n) {x38 : Int} : ∀ (r q : List Int) (x : Int) (k : Nat), r.length + 1 + q.length = n → r.length < k →
    f38_p5_2 F L 0 n x38 k r.length (r.reverse ++ x :: q) = some ((ins x r).reverse ++ q)
  | [], q, x, k, h1, h2 => by
    obtain ⟨k, rfl⟩ : ∃ m, k = m + 1 := ⟨k - 1, by simp at h2; omega⟩
    unfold f38_p5_2
    rw [if_neg (by simp)]
    rfl
  | y :: r, q, x, k, h1, h2 => by
    simp only [List.length_cons] at h1 h2
    obtain ⟨k, rfl⟩ : ∃ m, k = m + 1 := ⟨k - 1, by omega⟩
    have e1 : ((y :: r).reverse ++ x :: q)[0 + (r.length + 1)]? = some x := by
      rw [Nat.zero_add, List.getElem?_append_right (by simp), List.length_reverse, List.length_cons, Nat.sub_self]; rfl
    have e2 : ((y :: r).reverse ++ x :: q)[0 + r.length]? = some y := by
      rw [Nat.zero_add, List.reverse_cons, List.append_assoc, List.getElem?_append_right (by simp), List.length_reverse, Nat.sub_self]; rfl
    have w1 : w64 (((r.length + 1 : Nat) : Int) - 1) = ((r.length : Nat) : Int) := by rw [w64_in (by omega)]; omega
    have hlen : ((y :: r).reverse ++ x :: q).length = n := by simp; omega
    unfold f38_p5_2
    rw [List.length_cons, if_pos (decide_eq_true (by omega)), req_pos (by omega), Int.toNat_natCast, e1, Option.bind_some, w1, req_pos (by omega), Int.toNat_natCast, e2, Option.bind_some, f44_eq, Option.bind_some]
    by_cases h : x < y
    · rw [if_pos (by simpa using h), req_pos (by rw [hlen]; omega), req_pos (by rw [List.length_set, hlen]; omega)]
      have e3 : (((y :: r).reverse ++ x :: q).set (0 + (r.length + 1)) y).set (0 + r.length) x = r.reverse ++ x :: (y :: q) := by
        rw [Nat.zero_add, Nat.zero_add, List.set_append_right _ _ (by simp), List.length_reverse, List.length_cons, Nat.sub_self, List.set_cons_zero, List.reverse_cons, List.append_assoc, List.set_append_right _ _ (by simp), List.length_reverse, Nat.sub_self]
        rfl
      rw [e3, f38_p5_eq hn hL r (y :: q) x k (by simp; omega) (by omega), ins, if_pos h]
      simp
    · rw [if_neg (by simpa using h), ins, if_neg h]
      simp
theorem f38_p1_eq {F n : Nat} (hF : 20 ≤ F) (hn : n ≤ 12) {L : List Int} (hL : L.length = n) : ∀ (q r : List Int) (k : Nat), r.length + q.length = n → q.length < k →
    f38_p1 F L 0 n k r.length (r.reverse ++ q) = some (srt r q).reverse
  | [], r, k, h1, h2 => by
    obtain ⟨k, rfl⟩ : ∃ m, k = m + 1 := ⟨k - 1, by simp at h2; omega⟩
    simp only [List.length_nil, Nat.add_zero] at h1
    unfold f38_p1
    rw [if_neg (by simp [h1]), List.append_nil]
    rfl
  | x :: q, r, k, h1, h2 => by
    simp only [List.length_cons] at h1 h2
    obtain ⟨k, rfl⟩ : ∃ m, k = m + 1 := ⟨k - 1, by omega⟩
    unfold f38_p1
    rw [if_pos (by simp; omega), f38_p5_eq hn hL r q x F (by omega) (by omega), Option.bind_some, w64_succ (by omega)]
    have := f38_p1_eq hF hn hL q (ins x r) k (by rw [ins_len]; omega) (by omega)
    rw [ins_len] at this
    exact this
theorem f25_look : ((List.range 13).all fun n => (f25 10000 (IntKind.wrap .u64 ((n : Nat) : Int))).isSome) = true := by decide +kernel
theorem f9_eq {l : List Int} (hl : l.length ≤ 12) : f9 10000 l = some (sorted l) := by
  have h84 := f25_look
  simp only [List.all_eq_true, List.mem_range] at h84
  have h84 := h84 l.length (by omega)
  obtain ⟨v, hv⟩ := Option.isSome_iff_exists.1 h84
  unfold f9
  rw [hv, Option.bind_some]
  have hk : f24_p1 10000 10000 0 l.length v true true l = some (sorted l) := by
    show (if (decide ((w64 ((l.length : Int) - 0)) ≤ 12)) = true then Option.bind (f38 10000 0 l.length l) fun x17 => some x17 else _) = _
    rw [if_pos (by rw [w64_in (by omega)]; simp; omega)]
    unfold f38
    cases l with
    | nil =>
      have e : f38_p1 10000 [] 0 ((0 : Nat) : Int) 10000 (w64 (0 + 1)) [] = some [] := by
        show f38_p1 10000 [] 0 ((0 : Nat) : Int) (9999 + 1) (w64 (0 + 1)) [] = some []
        unfold f38_p1
        rw [if_neg (by rw [w64_in (by omega)]; simp)]
      show Option.bind (Option.bind (f38_p1 10000 [] 0 ((0 : Nat) : Int) 10000 (w64 (0 + 1)) []) _) _ = _
      rw [e]; rfl
    | cons x q =>
      have e := f38_p1_eq (F := 10000) (n := (x :: q).length) (by omega) hl (L := x :: q) rfl q [x] 10000 (by simp; omega) (by simp at hl; omega)
      have e' : f38_p1 10000 (x :: q) 0 ((x :: q).length : Nat) 10000 (w64 (0 + 1)) (x :: q) = some (srt [x] q).reverse := by
        rw [show w64 (0 + 1) = ((([x] : List Int).length : Nat) : Int) from by rw [w64_in (by omega)]; rfl]
        exact e
      rw [e']
      rfl
  unfold f24
  rw [hk, Option.bind_some, Option.bind_some]
theorem f38_1_p5_is {F : Nat} {L : List Int} {a b c : Int} : ∀ (k : Nat) (j : Int) (l : List Int), f38_1_p5_2 F L a b c k j l = f38_p5_2 F L a b c k j l := by
  intro k
  induction k with
  | zero => intro j l; rfl
  | succ k ih =>
    intro j l
    unfold f38_1_p5_2 f38_p5_2
    simp only [ih]
theorem f38_1_p1_is {F : Nat} {L : List Int} {a b : Int} : ∀ (k : Nat) (j : Int) (l : List Int), f38_1_p1 F L a b k j l = f38_p1 F L a b k j l := by
  intro k
  induction k with
  | zero => intro j l; rfl
  | succ k ih =>
    intro j l
    unfold f38_1_p1 f38_p1
    simp only [ih, f38_1_p5_is]
theorem f24_1_p1_is {F : Nat} : ∀ (k : Nat) (a b c : Int) (d e : Bool) (l : List Int), f24_1_p1 F k a b c d e l = f24_p1 F k a b c d e l := by
  intro k
  cases k with
  | zero => intro a b c d e l; rfl
  | succ k =>
    intro a b c d e l
    unfold f24_1_p1 f24_p1 f38_1 f38
    simp only [f38_1_p1_is]
    rfl
theorem f9_1_eq {l : List Int} (hl : l.length ≤ 12) : f9_1 10000 l = some (sorted l) := by
  rw [← f9_eq hl]
  unfold f9_1 f9 f24_1 f24
  simp only [f24_1_p1_is]

/- Bijections. -/
def gd (l : List Int) (i : Nat) : Int := (l[i]?).getD 0
theorem gd_get {l : List Int} {i : Nat} (h : i < l.length) : gd l i = l[i] := by unfold gd; rw [List.getElem?_eq_getElem h, Option.getD_some]
theorem pr_gd {l : List Int} {i : Nat} : pr l (i : Int) = gd l i := by unfold pr gd; rw [if_neg (by omega), Int.toNat_natCast]
theorem bij {x y : List Int} (h : x.Perm y) : ∃ π : Nat → Nat, (∀ i, i < x.length → π i < x.length) ∧ (∀ i j, i < x.length → j < x.length → π i = π j → i = j) ∧ ∀ i, i < x.length → gd y i = gd x (π i) := by
  induction h with
  | nil => exact ⟨id, fun i h => h, fun i j _ _ h => h, fun i h => by simp at h⟩
  | @cons a x y h ih =>
    obtain ⟨π, p1, p2, p3⟩ := ih
    refine ⟨fun i => match i with | 0 => 0 | i + 1 => π i + 1, fun i hi => ?_, fun i j hi hj e => ?_, fun i hi => ?_⟩
    · cases i with
      | zero => simp
      | succ i => simp at hi; have := p1 i hi; simp; omega
    · cases i with
      | zero => cases j with
        | zero => rfl
        | succ j => simp at e
      | succ i => cases j with
        | zero => simp at e
        | succ j =>
          simp at hi hj e
          rw [p2 i j hi hj e]
    · cases i with
      | zero => rfl
      | succ i => simp at hi; exact p3 i hi
  | swap a b l =>
    refine ⟨fun i => match i with | 0 => 1 | 1 => 0 | i + 2 => i + 2, fun i hi => ?_, fun i j hi hj e => ?_, fun i hi => ?_⟩
    · match i, hi with
      | 0, _ => simp
      | 1, _ => simp
      | i + 2, hi => exact hi
    · match i, j, e with
      | 0, 0, _ => rfl
      | 1, 1, _ => rfl
      | 0, 1, e => simp at e
      | 1, 0, e => simp at e
      | 0, j + 2, e => simp at e
      | 1, j + 2, e => simp at e
      | i + 2, 0, e => simp at e
      | i + 2, 1, e => simp at e
      | i + 2, j + 2, e => simpa using e
    · match i, hi with
      | 0, _ => rfl
      | 1, _ => rfl
      | i + 2, _ => rfl
  | @trans x y z h1 h2 ih1 ih2 =>
    obtain ⟨π, p1, p2, p3⟩ := ih1
    obtain ⟨ρ, r1, r2, r3⟩ := ih2
    have hl := h1.length_eq
    refine ⟨fun i => π (ρ i), fun i hi => p1 _ (by have := r1 i (by omega); omega), fun i j hi hj e => ?_, fun i hi => ?_⟩
    · have q1 := r1 i (by omega)
      have q2 := r1 j (by omega)
      exact r2 i j (by omega) (by omega) (p2 _ _ (by omega) (by omega) e)
    · have q1 := r1 i (by omega)
      rw [r3 i (by omega), p3 _ (by omega)]

theorem ones {n l : Nat} (hl : l < n) : pr (List.replicate n 1) l = 1 := by rw [pr_nat (by simpa using hl)]; simp
/-- Who all get something get everything. -/
theorem onto {n : Nat} {t : Nat → Int} (ht : Dv n n t) (h0 : ∀ i, i < n → 0 ≤ t i) : ∀ l, l < n → ∃ i, i < n ∧ t i = (l : Int) := by
  have e := sm_lots (p := List.replicate n 1) (S := fun _ => True) n ht
  simp only [cif_pos trivial] at e
  have e1 : sm n (fun i => pr (List.replicate n 1) (t i)) = sm n (fun _ => 1) := sm_congr fun i hi => by
    have := ht.rg i hi
    have := h0 i hi
    obtain ⟨x, hx⟩ : ∃ x : Nat, t i = x := ⟨(t i).toNat, by omega⟩
    rw [hx, ones (by omega)]
  intro l hl
  have := sm_eq_of (n := n) (f := fun l => cif (∃ i, i < n ∧ True ∧ t i = (l : Int)) (pr (List.replicate n 1) l)) (g := fun _ => 1) (fun l hl => by
    by_cases hex : ∃ i, i < n ∧ True ∧ t i = (l : Int)
    · rw [cif_pos hex, ones hl]; exact Int.le_refl _
    · rw [cif_neg hex]; decide) (by rw [← e, e1]; exact Int.le_refl _) l hl
  by_cases hex : ∃ i, i < n ∧ True ∧ t i = (l : Int)
  · obtain ⟨i, h1, _, h2⟩ := hex
    exact ⟨i, h1, h2⟩
  · rw [cif_neg hex] at this
    exact absurd this (by decide)
/-- If somebody gets nothing, something is left. -/
theorem left {n : Nat} {t : Nat → Int} (ht : Dv n n t) {i0 : Nat} (hi0 : i0 < n) (h0 : t i0 = -1) : ∃ l, l < n ∧ ∀ i, i < n → t i ≠ (l : Int) := by
  by_cases hall : ∃ l, l < n ∧ ∀ i, i < n → t i ≠ (l : Int)
  · exact hall
  · exfalso
    have e := sm_lots (p := List.replicate n 1) (S := fun _ => True) n ht
    simp only [cif_pos trivial] at e
    have e1 : sm n (fun i => pr (List.replicate n 1) (t i)) ≤ sm n (fun i => 1 + if i = i0 then -1 else 0) := sm_le fun i hi => by
      by_cases hii : i = i0
      · rw [hii, h0, pr_neg, if_pos rfl]; decide
      · rw [if_neg hii]
        have := ht.rg i hi
        by_cases hn : t i < 0
        · rw [show t i = -1 by omega, pr_neg]; decide
        · obtain ⟨x, hx⟩ : ∃ x : Nat, t i = x := ⟨(t i).toNat, by omega⟩
          rw [hx, ones (by omega)]; decide
    have e2 : sm n (fun l => cif (∃ i, i < n ∧ True ∧ t i = (l : Int)) (pr (List.replicate n 1) l)) = sm n (fun _ => 1) := sm_congr fun l hl => by
      have hex : ∃ i, i < n ∧ True ∧ t i = (l : Int) := by
        by_cases hex : ∃ i, i < n ∧ True ∧ t i = (l : Int)
        · exact hex
        · exact absurd ⟨l, hl, fun i hi e => hex ⟨i, hi, trivial, e⟩⟩ hall
      rw [cif_pos hex, ones hl]
    rw [sm_add, sm_one hi0] at e1
    omega
theorem reindex {n : Nat} {π : Nat → Nat} (h1 : ∀ i, i < n → π i < n) (h2 : ∀ i j, i < n → j < n → π i = π j → i = j) (f : Nat → Int) : sm n (fun i => f (π i)) = sm n f := by
  have ht : Dv n n (fun i => (π i : Int)) := ⟨fun i hi => by have := h1 i hi; omega, fun i j hi hj e _ => h2 i j hi hj (by omega)⟩
  have hon := onto ht (fun i _ => by omega)
  have hp : ∀ l, l < n → pr ((List.range n).map f) (l : Int) = f l := fun l hl => by rw [pr_nat (by simpa using hl)]; simp
  have e := sm_lots (p := (List.range n).map f) (S := fun _ => True) n ht
  simp only [cif_pos trivial] at e
  rw [show sm n (fun i => f (π i)) = sm n (fun i => pr ((List.range n).map f) (π i : Int)) from sm_congr fun i hi => (hp _ (h1 i hi)).symm, e]
  refine sm_congr fun l hl => ?_
  obtain ⟨i, hi, e⟩ := hon l hl
  rw [cif_pos ⟨i, hi, trivial, e⟩, hp l hl]

/- Moves along the line. -/
def ad (x y : Int) : Int := if y - x > x - y then y - x else x - y
def Hh (x : Int) (t : Nat) : Int := if x > t then 1 else 0
def iabs (x : Int) : Int := if x < 0 then -x else x
theorem ad_look : ((List.range 16).all fun (x : Nat) => (List.range 16).all fun (y : Nat) => ad x y == sm 15 fun t => iabs (Hh x t - Hh y t)) = true := by decide +kernel
theorem ad_eq {x y : Int} (hx : 0 ≤ x ∧ x ≤ 15) (hy : 0 ≤ y ∧ y ≤ 15) : ad x y = sm 15 fun t => iabs (Hh x t - Hh y t) := by
  have h := ad_look
  simp only [List.all_eq_true, List.mem_range, beq_iff_eq] at h
  have := h x.toNat (by omega) y.toNat (by omega)
  rwa [show ((x.toNat : Nat) : Int) = x by omega, show ((y.toNat : Nat) : Int) = y by omega] at this
theorem sm_swap {n k : Nat} {f : Nat → Nat → Int} : sm n (fun i => sm k (fun t => f i t)) = sm k (fun t => sm n (fun i => f i t)) := by
  induction n with
  | zero =>
    have : ∀ k : Nat, sm k (fun _ => (0 : Int)) = 0 := fun k => by
      induction k with
      | zero => rfl
      | succ k ih => rw [sm, ih]; rfl
    exact (this k).symm
  | succ n ih =>
    rw [sm, ih, ← sm_add]
    rfl
theorem iabs_sm {n : Nat} {f : Nat → Int} : iabs (sm n f) ≤ sm n (fun i => iabs (f i)) := by
  induction n with
  | zero => rw [sm, sm]; decide
  | succ n ih =>
    rw [sm, sm]
    have : iabs (sm n f + f n) ≤ iabs (sm n f) + iabs (f n) := by unfold iabs; split <;> split <;> split <;> omega
    omega
theorem iabs_one {n : Nat} {f : Nat → Int} (h : (∀ i, i < n → 0 ≤ f i) ∨ ∀ i, i < n → f i ≤ 0) : sm n (fun i => iabs (f i)) = iabs (sm n f) := by
  rcases h with h | h
  · have e : sm n (fun i => iabs (f i)) = sm n f := sm_congr fun i hi => by have := h i hi; unfold iabs; rw [if_neg (by omega)]
    have h0 : 0 ≤ sm n f := by
      have := sm_le (n := n) (f := fun _ => 0) (g := f) h
      have z : ∀ k : Nat, sm k (fun _ => (0 : Int)) = 0 := fun k => by
        induction k with
        | zero => rfl
        | succ k ih => rw [sm, ih]; rfl
      rwa [z] at this
    rw [e]; unfold iabs; rw [if_neg (by omega)]
  · have e : sm n (fun i => iabs (f i)) = - sm n f := by
      have : sm n (fun i => iabs (f i)) = sm n (fun i => 0 - f i) := sm_congr fun i hi => by
        have := h i hi
        unfold iabs
        split <;> omega
      rw [this, sm_sub]
      have z : ∀ k : Nat, sm k (fun _ => (0 : Int)) = 0 := fun k => by
        induction k with
        | zero => rfl
        | succ k ih => rw [sm, ih]; rfl
      rw [z]; omega
    have h0 : sm n f ≤ 0 := by
      have := sm_le (n := n) (f := f) (g := fun _ => 0) h
      have z : ∀ k : Nat, sm k (fun _ => (0 : Int)) = 0 := fun k => by
        induction k with
        | zero => rfl
        | succ k ih => rw [sm, ih]; rfl
      rwa [z] at this
    rw [e]; unfold iabs; split <;> omega
theorem asc_gd {l : List Int} (h : l.Pairwise (· ≤ ·)) {i j : Nat} (hij : i ≤ j) (hj : j < l.length) : gd l i ≤ gd l j := by
  rw [gd_get (by omega), gd_get hj]
  by_cases e : i = j
  · subst e; exact Int.le_refl _
  · exact (List.pairwise_iff_getElem.1 h) i j (by omega) hj (by omega)

section
variable {n : Nat} {a b : List Int} (ha : a.length = n) (hb : b.length = n) (hav : ∀ x ∈ a, 0 ≤ x ∧ x ≤ 15) (hbv : ∀ x ∈ b, 0 ≤ x ∧ x ≤ 15)
include ha hb hav hbv
theorem gd_bd : (∀ i, i < n → 0 ≤ gd a i ∧ gd a i ≤ 15) ∧ ∀ i, i < n → 0 ≤ gd b i ∧ gd b i ≤ 15 :=
  ⟨fun i hi => by rw [gd_get (by omega)]; exact hav _ (List.getElem_mem _), fun i hi => by rw [gd_get (by omega)]; exact hbv _ (List.getElem_mem _)⟩
/-- The cost in order. -/
theorem cost_sorted : sm n (fun k => ad (gd (sorted a) k) (gd (sorted b) k)) = sm 15 fun t => iabs (sm n (fun i => Hh (gd a i) t) - sm n (fun i => Hh (gd b i) t)) := by
  have hpa := sorted_perm a
  have hpb := sorted_perm b
  have la := sorted_len a
  have lb := sorted_len b
  have sa := sorted_asc a
  have sb := sorted_asc b
  obtain ⟨π, p1, p2, p3⟩ := bij hpa.symm
  obtain ⟨ρ, r1, r2, r3⟩ := bij hpb.symm
  rw [ha] at p1 p2 p3
  rw [hb] at r1 r2 r3
  obtain ⟨b1, b2⟩ := gd_bd ha hb hav hbv
  have e1 : sm n (fun k => ad (gd (sorted a) k) (gd (sorted b) k)) = sm n fun k => sm 15 fun t => iabs (Hh (gd (sorted a) k) t - Hh (gd (sorted b) k) t) := sm_congr fun k hk => by
    refine ad_eq ?_ ?_
    · rw [p3 k hk]; exact b1 _ (p1 k hk)
    · rw [r3 k hk]; exact b2 _ (r1 k hk)
  rw [e1, sm_swap]
  refine sm_congr fun t _ => ?_
  have q1 : sm n (fun i => Hh (gd a i) t) = sm n (fun k => Hh (gd (sorted a) k) t) := by
    rw [show sm n (fun k => Hh (gd (sorted a) k) t) = sm n (fun k => Hh (gd a (π k)) t) from sm_congr fun k hk => by rw [p3 k hk]]
    exact (reindex p1 p2 (fun i => Hh (gd a i) t)).symm
  have q2 : sm n (fun i => Hh (gd b i) t) = sm n (fun k => Hh (gd (sorted b) k) t) := by
    rw [show sm n (fun k => Hh (gd (sorted b) k) t) = sm n (fun k => Hh (gd b (ρ k)) t) from sm_congr fun k hk => by rw [r3 k hk]]
    exact (reindex r1 r2 (fun i => Hh (gd b i) t)).symm
  rw [q1, q2, ← sm_sub]
  refine iabs_one ?_
  by_cases hex : ∃ k, k < n ∧ Hh (gd (sorted a) k) t - Hh (gd (sorted b) k) t < 0
  · refine .inr fun j hj => ?_
    obtain ⟨k, hk, h⟩ := hex
    have m1 : ∀ i j, i ≤ j → j < n → Hh (gd (sorted a) i) t ≤ Hh (gd (sorted a) j) t := fun i j hij hj => by
      have := asc_gd sa hij (by omega)
      unfold Hh
      split <;> split <;> omega
    have m2 : ∀ i j, i ≤ j → j < n → Hh (gd (sorted b) i) t ≤ Hh (gd (sorted b) j) t := fun i j hij hj => by
      have := asc_gd sb hij (by omega)
      unfold Hh
      split <;> split <;> omega
    have z : ∀ x, Hh x t = 0 ∨ Hh x t = 1 := fun x => by unfold Hh; split <;> omega
    rcases z (gd (sorted a) k) with za | za <;> rcases z (gd (sorted b) k) with zb | zb <;> rcases z (gd (sorted a) j) with ya | ya <;> rcases z (gd (sorted b) j) with yb | yb <;> try omega
    by_cases hkj : k ≤ j
    · have := m2 k j hkj hj; omega
    · have := m1 j k (by omega) hk; omega
  · refine .inl fun j hj => ?_
    by_cases h : 0 ≤ Hh (gd (sorted a) j) t - Hh (gd (sorted b) j) t
    · exact h
    · exact absurd ⟨j, hj, by omega⟩ hex
/-- No division costs less. -/
theorem cost_least {π : Nat → Nat} (h1 : ∀ i, i < n → π i < n) (h2 : ∀ i j, i < n → j < n → π i = π j → i = j) : sm n (fun k => ad (gd (sorted a) k) (gd (sorted b) k)) ≤ sm n (fun i => ad (gd a i) (gd b (π i))) := by
  obtain ⟨b1, b2⟩ := gd_bd ha hb hav hbv
  rw [cost_sorted ha hb hav hbv]
  have e1 : sm n (fun i => ad (gd a i) (gd b (π i))) = sm n fun i => sm 15 fun t => iabs (Hh (gd a i) t - Hh (gd b (π i)) t) := sm_congr fun i hi => ad_eq (b1 i hi) (b2 _ (h1 i hi))
  rw [e1, sm_swap]
  refine sm_le fun t _ => ?_
  rw [← reindex h1 h2 (fun i => Hh (gd b i) t), ← sm_sub]
  exact iabs_sm
/-- Some division costs as much. -/
theorem cost_reach : ∃ π : Nat → Nat, (∀ i, i < n → π i < n) ∧ (∀ i j, i < n → j < n → π i = π j → i = j) ∧ sm n (fun i => ad (gd a i) (gd b (π i))) = sm n (fun k => ad (gd (sorted a) k) (gd (sorted b) k)) := by
  have la := sorted_len a
  obtain ⟨π, p1, p2, p3⟩ := bij (sorted_perm a)
  obtain ⟨ρ, r1, r2, r3⟩ := bij (sorted_perm b).symm
  have _ := hav
  have _ := hbv
  rw [la, ha] at p1 p2 p3
  rw [hb] at r1 r2 r3
  refine ⟨fun i => ρ (π i), fun i hi => r1 _ (p1 i hi), fun i j hi hj e => p2 i j hi hj (r2 _ _ (p1 i hi) (p1 j hj) e), ?_⟩
  rw [show sm n (fun i => ad (gd a i) (gd b (ρ (π i)))) = sm n (fun i => ad (gd (sorted a) (π i)) (gd (sorted b) (π i))) from sm_congr fun i hi => by rw [p3 i hi, r3 _ (p1 i hi)]]
  exact reindex p1 p2 (fun k => ad (gd (sorted a) k) (gd (sorted b) k))
end

/-- The sale. -/
def nsale (a b : List Int) : List (List Int) := a.map fun x => b.map fun y => 20 - ad x y
section
variable {n : Nat} {a b : List Int} (ha : a.length = n) (hb : b.length = n) (hav : ∀ x ∈ a, 0 ≤ x ∧ x ≤ 15) (hbv : ∀ x ∈ b, 0 ≤ x ∧ x ≤ 15) (hn : 1 ≤ n ∧ n ≤ 5)
theorem ad_bd {x y : Int} (hx : 0 ≤ x ∧ x ≤ 15) (hy : 0 ≤ y ∧ y ≤ 15) : 0 ≤ ad x y ∧ ad x y ≤ 15 := by unfold ad; split <;> omega
include ha hb hav hbv hn
theorem ns_len : (nsale a b).length = n := by
  have _ := hb
  have _ := hav
  have _ := hbv
  have _ := hn
  simp [nsale, ha]
theorem ns_vs : Vs n (nsale a b) := by
  refine ⟨fun r hr => ?_, by rw [ns_len ha hb hav hbv hn]; omega, hn.2⟩
  obtain ⟨x, hx, rfl⟩ := List.mem_map.1 hr
  refine ⟨by simp [hb], fun z hz => ?_⟩
  obtain ⟨y, hy, rfl⟩ := List.mem_map.1 hz
  have := ad_bd (hav x hx) (hbv y hy)
  omega
theorem ns_va {i j : Nat} (hi : i < n) (hj : j < n) : va (nsale a b) i j = 20 - ad (gd a i) (gd b j) := by
  have _ := hav
  have _ := hbv
  have _ := hn
  have e : (nsale a b)[i]? = some (b.map fun y => 20 - ad (gd a i) y) := by
    unfold nsale
    rw [List.getElem?_map, List.getElem?_eq_getElem (by omega), gd_get (by omega)]; rfl
  unfold va vl
  rw [if_neg (by omega), Int.toNat_natCast, e, Option.getD_some, List.getElem?_map, List.getElem?_eq_getElem (by omega), gd_get (l := b) (by omega)]
  rfl
theorem ns_wt {π : Nat → Nat} (h1 : ∀ i, i < n → π i < n) : wt n (va (nsale a b)) (fun i => (π i : Int)) = 20 * n - sm n (fun i => ad (gd a i) (gd b (π i))) := by
  have e : wt n (va (nsale a b)) (fun i => (π i : Int)) = sm n (fun i => 20 - ad (gd a i) (gd b (π i))) := sm_congr fun i hi => ns_va ha hb hav hbv hn hi (h1 i hi)
  rw [e, sm_sub]
  have : ∀ k : Nat, sm k (fun _ => (20 : Int)) = 20 * k := fun k => by
    induction k with
    | zero => rfl
    | succ k ih => rw [sm, ih]; omega
  rw [this]
/-- All clasps get a position. -/
theorem ns_all : ∀ i, i < n → 0 ≤ lot n (nsale a b) i := by
  have hv := ns_vs ha hb hav hbv hn
  have hl := ns_len ha hb hav hbv hn
  have hd := best_dv hv
  rw [hl] at hd
  intro i hi
  by_cases h0 : 0 ≤ lot n (nsale a b) i
  · exact h0
  · exfalso
    have hr := hd.rg i hi
    obtain ⟨l, hl1, hl2⟩ := left hd hi (by omega)
    have hu : Dv n n (put1 (lot n (nsale a b)) i l) := put1_dv hd (by omega) (fun j hj _ e _ => hl2 j hj e)
    have h1 := best_opt hv (u := put1 (lot n (nsale a b)) i l) (by rw [hl]; exact hu)
    rw [hl] at h1
    have e : wt n (va (nsale a b)) (put1 (lot n (nsale a b)) i l) + sm n (fun _ => 0) = wt n (va (nsale a b)) (lot n (nsale a b)) + sm n (fun _ => 0) + va (nsale a b) i l := by
      refine sm_at hi (fun j hj ij => ?_) ?_
      · rw [put1_ne ij]
      · rw [put1_eq, show lot n (nsale a b) i = -1 by omega, va_none]; omega
    rw [ns_va ha hb hav hbv hn hi hl1] at e
    obtain ⟨b1, b2⟩ := gd_bd ha hb hav hbv
    have := ad_bd (b1 i hi) (b2 l hl1)
    omega
/-- The greatest worth. -/
theorem ns_W : W n (nsale a b) (-1) = 20 * n - sm n (fun k => ad (gd (sorted a) k) (gd (sorted b) k)) := by
  have hv := ns_vs ha hb hav hbv hn
  have hl := ns_len ha hb hav hbv hn
  have hd := best_dv hv
  have hw := best_wt hv
  rw [hl] at hd hw
  have hall := ns_all ha hb hav hbv hn
  refine Int.le_antisymm ?_ ?_
  · have e : wt n (va (nsale a b)) (lot n (nsale a b)) = wt n (va (nsale a b)) (fun i => (((lot n (nsale a b) i).toNat : Nat) : Int)) := sm_congr fun i hi => by
      have := hall i hi
      dsimp only
      rw [show (((lot n (nsale a b) i).toNat : Nat) : Int) = lot n (nsale a b) i by omega]
    have h1 : ∀ i, i < n → (lot n (nsale a b) i).toNat < n := fun i hi => by have := hd.rg i hi; have := hall i hi; omega
    have h2 : ∀ i j, i < n → j < n → (lot n (nsale a b) i).toNat = (lot n (nsale a b) j).toNat → i = j := fun i j hi hj e => by
      have q1 := hall i hi
      have q2 := hall j hj
      exact hd.inj i j hi hj (by omega) (by omega)
    have := cost_least ha hb hav hbv h1 h2
    rw [← hw, e, ns_wt ha hb hav hbv hn h1]
    omega
  · obtain ⟨π, p1, p2, p3⟩ := cost_reach ha hb hav hbv
    have hu : Dv n n (fun i => (π i : Int)) := ⟨fun i hi => by have := p1 i hi; omega, fun i j hi hj e _ => p2 i j hi hj (by omega)⟩
    have h1 := best_opt hv (u := fun i => (π i : Int)) (by rw [hl]; exact hu)
    rw [hl, ns_wt ha hb hav hbv hn p1, hw, p3] at h1
    exact h1
end

/- The code. -/
theorem pos_look : ((List.range 16).all fun (x : Nat) => (List.range 16).all fun (y : Nat) => match f4 10000 4 x, f4 10000 4 y with | some (p, e), some (q, g) => (match f5 10000 p q with | some (d, h) => e == 0 && g == 0 && h == 0 && d == ad x y | none => false) | _, _ => false) = true := by decide +kernel
theorem pos_eq {x y : Int} (hx : 0 ≤ x ∧ x ≤ 15) (hy : 0 ≤ y ∧ y ≤ 15) : ∃ p q, f4 10000 4 x = some (p, 0) ∧ f4 10000 4 y = some (q, 0) ∧ f5 10000 p q = some (ad x y, 0) := by
  have h := pos_look
  simp only [List.all_eq_true, List.mem_range] at h
  have h2 := h x.toNat (by omega) y.toNat (by omega)
  rw [show ((x.toNat : Nat) : Int) = x by omega, show ((y.toNat : Nat) : Int) = y by omega] at h2
  cases h4 : f4 10000 4 x with
  | none => rw [h4] at h2; cases h2
  | some pe =>
    obtain ⟨p, e⟩ := pe
    cases h4' : f4 10000 4 y with
    | none => rw [h4, h4'] at h2; cases h2
    | some qe =>
      obtain ⟨q, g⟩ := qe
      rw [h4, h4'] at h2
      dsimp only at h2
      cases h5 : f5 10000 p q with
      | none => rw [h5] at h2; cases h2
      | some de =>
        obtain ⟨d, k⟩ := de
        rw [h5] at h2
        simp only [Bool.and_eq_true, beq_iff_eq] at h2
        obtain ⟨⟨⟨rfl, rfl⟩, rfl⟩, rfl⟩ := h2
        exact ⟨p, q, rfl, rfl, h5⟩

theorem f3_p1_eq {x1 : Int} {n : Nat} (hn : w64 (1 + Int.tmod (w64 x1) 5) = n) (hn5 : n ≤ 5) {u v : List Int} (hu : u.length = 5) (hv : v.length = 5) (hux : ∀ x : Int, x ∈ u → 0 ≤ x ∧ x ≤ 255) (hvx : ∀ x : Int, x ∈ v → 0 ≤ x ∧ x ≤ 255) : ∀ (k i : Nat) (a b : List Int), i ≤ n → n < k + i → a.length = i → b.length = i → (∀ x ∈ a, 0 ≤ x ∧ x ≤ 15) → (∀ x ∈ b, 0 ≤ x ∧ x ≤ 15) →
    ∃ a' b', f3_p1 10000 x1 u v k i a b = some (a', b') ∧ a'.length = n ∧ b'.length = n ∧ (∀ x ∈ a', 0 ≤ x ∧ x ≤ 15) ∧ ∀ x ∈ b', 0 ≤ x ∧ x ≤ 15 := by
  intro k
  induction k with
  | zero => intro i a b _ h; omega
  | succ k ih =>
    intro i a b h1 h2 h3 h4 h5 h6
    unfold f3_p1
    rw [hn]
    by_cases hi : i < n
    · have hx := hux _ (List.getElem_mem (l := u) (n := i) (by omega))
      have hy := hvx _ (List.getElem_mem (l := v) (n := i) (by omega))
      obtain ⟨t1, t2, t3⟩ := tmod_bd (n := 16) hx (by omega)
      obtain ⟨s1, s2, s3⟩ := tmod_bd (n := 16) hy (by omega)
      have e16 : ((16 : Nat) : Int) = 16 := rfl
      rw [e16] at t2 t3 s2 s3
      rw [if_pos (by simp; omega), req_pos (by omega), Int.toNat_natCast, Nat.zero_add, Nat.mul_one, List.getElem?_eq_getElem (by omega), Option.bind_some, req_pos (by simp; omega), List.getElem?_eq_getElem (by omega), Option.bind_some, req_pos (by simp; omega), w64_succ (by omega), t1, s1]
      refine ih (i + 1) _ _ (by omega) (by omega) (by simp; omega) (by simp; omega) (fun x hx => ?_) (fun x hx => ?_)
      · rcases List.mem_append.1 hx with hx | hx
        · exact h5 x hx
        · simp at hx; rw [hx]; omega
      · rcases List.mem_append.1 hx with hx | hx
        · exact h6 x hx
        · simp at hx; rw [hx]; omega
    · rw [if_neg (by simp; omega)]
      exact ⟨a, b, rfl, by omega, by omega, h5, h6⟩
theorem f3_p9_eq {x1 x39 : Int} {a b : List Int} {R : List (List Int)} {x : Int} (hx : 0 ≤ x ∧ x ≤ 15) (hb5 : b.length ≤ 5) (hbv : ∀ x ∈ b, 0 ≤ x ∧ x ≤ 15) : ∀ (k j : Nat), j ≤ b.length → b.length < k + j → f3_p9_1 10000 x1 a b R x x39 k j ((b.take j).map fun y => 20 - ad x y) = some (.c1 (b.map fun y => 20 - ad x y)) := by
  intro k
  induction k with
  | zero => intro j _ h; omega
  | succ k ih =>
    intro j h1 h2
    unfold f3_p9_1
    by_cases hj : j < b.length
    · have hy := hbv _ (List.getElem_mem hj)
      obtain ⟨p, q, e1, e2, e3⟩ := pos_eq hx hy
      have hab := ad_bd hx hy
      have ead : (if w64 (b[j] - x) > w64 (x - b[j]) then w64 (b[j] - x) else w64 (x - b[j])) = ad x b[j] := by
        rw [w64_in (by omega), w64_in (by omega)]; rfl
      rw [if_pos (by simp; omega), req_pos (by omega), Int.toNat_natCast, Nat.zero_add, List.getElem?_eq_getElem hj, Option.bind_some, e1, Option.bind_some]
      dsimp only
      rw [e2, Option.bind_some]
      dsimp only
      rw [e3, Option.bind_some]
      dsimp only
      rw [if_neg (by decide), if_neg (by decide), if_neg (by decide), ead, if_neg (by simp), w64_in (by omega), req_pos (by simp; omega), w64_succ (by omega)]
      have e : ((b.take j).map fun y => 20 - ad x y) ++ [20 - ad x b[j]] = (b.take (j + 1)).map fun y => 20 - ad x y := by rw [List.take_add_one, List.getElem?_eq_getElem hj, List.map_append]; rfl
      rw [e]
      exact ih (j + 1) (by omega) (by omega)
    · rw [if_neg (by simp; omega), List.take_of_length_le (by omega)]
theorem f3_p5_eq {x1 : Int} {a b : List Int} (ha5 : a.length ≤ 5) (hb5 : b.length ≤ 5) (hav : ∀ x ∈ a, 0 ≤ x ∧ x ≤ 15) (hbv : ∀ x ∈ b, 0 ≤ x ∧ x ≤ 15) : ∀ (k i : Nat), i ≤ a.length → a.length < k + i → f3_p5 10000 x1 a b k i (nsale (a.take i) b) = some (.c1 (nsale a b)) := by
  intro k
  induction k with
  | zero => intro i _ h; omega
  | succ k ih =>
    intro i h1 h2
    unfold f3_p5
    by_cases hi : i < a.length
    · have hx := hav _ (List.getElem_mem hi)
      rw [if_pos (by simp; omega), req_pos (by omega), Int.toNat_natCast, Nat.zero_add, List.getElem?_eq_getElem hi, Option.bind_some, show f3_p9_1 10000 x1 a b (nsale (a.take i) b) a[i] i 10000 0 [] = _ from f3_p9_eq hx hb5 hbv 10000 0 (by omega) (by omega), Option.bind_some]
      dsimp only
      rw [take0, req_pos (by simp [nsale]; omega), w64_succ (by omega)]
      have e : nsale (a.take i) b ++ [b.map fun y => 20 - ad a[i] y] = nsale (a.take (i + 1)) b := by
        unfold nsale
        rw [List.take_add_one, List.getElem?_eq_getElem hi, List.map_append]; rfl
      rw [e]
      exact ih (i + 1) (by omega) (by omega)
    · rw [if_neg (by simp; omega), List.take_of_length_le (by omega)]
theorem f3_p15_eq {x1 : Int} {n : Nat} (hn : w64 (1 + Int.tmod (w64 x1) 5) = n) (hn5 : n ≤ 5) {a b : List Int} (ha : a.length = n) (hb : b.length = n) {R : List (List Int)} {d : List Int} {w : Int} {a' b' : List Int} (ha' : a'.length = n) (hb' : b'.length = n) (hav : ∀ x ∈ a', 0 ≤ x ∧ x ≤ 15) (hbv : ∀ x ∈ b', 0 ≤ x ∧ x ≤ 15) : ∀ (k i : Nat), i ≤ n → n < k + i →
    f3_p15 10000 a b R d w x1 a' b' k (sm i fun k => 20 - ad (gd a' k) (gd b' k)) i = some (sm n fun k => 20 - ad (gd a' k) (gd b' k)) := by
  intro k
  induction k with
  | zero => intro i _ h; omega
  | succ k ih =>
    intro i h1 h2
    unfold f3_p15
    rw [hn]
    by_cases hi : i < n
    · obtain ⟨b1, b2⟩ := gd_bd ha' hb' hav hbv
      have hx := b1 i hi
      have hy := b2 i hi
      have hab := ad_bd hx hy
      have ead : (if w64 (gd b' i - gd a' i) > w64 (gd a' i - gd b' i) then w64 (gd b' i - gd a' i) else w64 (gd a' i - gd b' i)) = ad (gd a' i) (gd b' i) := by
        rw [w64_in (by omega), w64_in (by omega)]; rfl
      have hs : 0 ≤ sm i (fun k => 20 - ad (gd a' k) (gd b' k)) ∧ sm i (fun k => 20 - ad (gd a' k) (gd b' k)) ≤ i * 20 := sm_bd fun j hj => by
        have := ad_bd (b1 j (by omega)) (b2 j (by omega))
        omega
      have := ih (i + 1) (by omega) (by omega)
      rw [sm] at this
      rw [if_pos (by simp; omega), req_pos (by omega), Int.toNat_natCast, Nat.zero_add, List.getElem?_eq_getElem (by omega), Option.bind_some, req_pos (by omega), List.getElem?_eq_getElem (by omega), Option.bind_some, ← gd_get (l := a') (by omega), ← gd_get (l := b') (by omega), ead, w64_in (n := 20 - _) (by omega), w64_in (by omega), w64_succ (by omega)]
      exact this
    · rw [if_neg (by simp; omega)]
      obtain rfl : i = n := by omega
      rfl

theorem works12 : f12 10000 = some true := by decide +kernel
theorem f3_plain (x1 : Int) (u v : List Int) (h1 : 0 ≤ x1 ∧ x1 ≤ 255) (hu : u.length = 5) (hux : ∀ x : Int, x ∈ u → 0 ≤ x ∧ x ≤ 255) (hv : v.length = 5) (hvx : ∀ x : Int, x ∈ v → 0 ≤ x ∧ x ≤ 255) : f3 10000 x1 u v = some true := by
  obtain ⟨t1, t2, t3⟩ := tmod_bd (n := 5) h1 (by omega)
  have e5 : ((5 : Nat) : Int) = 5 := rfl
  rw [e5] at t2 t3
  obtain ⟨n, hn⟩ : ∃ n : Nat, 1 + Int.tmod x1 5 = n := ⟨(1 + Int.tmod x1 5).toNat, by omega⟩
  have hn' : w64 (1 + Int.tmod (w64 x1) 5) = n := by rw [t1, hn, w64_in (by omega)]
  have hnb : 1 ≤ n ∧ n ≤ 5 := by omega
  obtain ⟨a, b, e1, ha, hb, hav, hbv⟩ := f3_p1_eq hn' hnb.2 hu hv hux hvx 10000 0 [] [] (by omega) (by omega) rfl rfl (by simp) (by simp)
  have hv' := ns_vs ha hb hav hbv hnb
  have hlen := ns_len ha hb hav hbv hnb
  have hbl := best_len hv'
  have hall := ns_all ha hb hav hbv hnb
  have hW := ns_W ha hb hav hbv hnb
  have e2 := f3_p5_eq (x1 := x1) (by omega) (by omega) hav hbv 10000 0 (by omega) (by omega)
  have la := sorted_len a
  have lb := sorted_len b
  have e15 := f3_p15_eq (R := nsale a b) (d := bestD n (nsale a b)) (w := W n (nsale a b) (-1)) hn' hnb.2 ha hb (by omega : (sorted a).length = n) (by omega : (sorted b).length = n) (fun x hx => hav x ((sorted_perm a).mem_iff.1 hx)) (fun x hx => hbv x ((sorted_perm b).mem_iff.1 hx)) 10000 0 (by omega) (by omega)
  have esum : sm n (fun k => 20 - ad (gd (sorted a) k) (gd (sorted b) k)) = W n (nsale a b) (-1) := by
    rw [hW, sm_sub]
    have : ∀ k : Nat, sm k (fun _ => (20 : Int)) = 20 * k := fun k => by
      induction k with
      | zero => rfl
      | succ k ih => rw [sm, ih]; omega
    rw [this]
  rw [esum] at e15
  have e6 : f6_1 10000 (nsale a b) = some (bestD n (nsale a b), 0) := by rw [f6_1_eq (by omega), if_neg (by simp [hv'.ck]), hv'.head]
  have e10 : f10 10000 (nsale a b) = some (lowP n (nsale a b), 0) := by rw [f10_eq (by omega), if_neg (by simp [hv'.ck]), hv'.head]
  have hok := ds_okD _ _ _ _ (best_mem hv').1
  have e7 : f7 10000 (nsale a b) (bestD n (nsale a b)) = some (W n (nsale a b) (-1), 0) := by rw [f7_eq (by omega) hv' hbl.1 hbl.2, if_pos hok, best_W hv']
  have hfair := (fairB_iff (pd_low hv') hbl.1 hbl.2).2 (lowP_fair hv')
  have e11 : f11 10000 (nsale a b) (lowP n (nsale a b)) (bestD n (nsale a b)) = some 0 := by rw [f11_eq (by omega) hv' (pd_low hv') hbl.1 hbl.2 hok, if_pos hfair]
  have hno : (-1 : Int) ∉ bestD n (nsale a b) := fun h => by
    obtain ⟨i, hi, e⟩ := List.getElem_of_mem h
    have := hall i (by omega)
    unfold lot at this
    rw [List.getElem?_eq_getElem hi, Option.getD_some, e] at this
    omega
  have e0 : nsale (a.take 0) b = [] := rfl
  rw [e0] at e2
  unfold f3
  rw [show f3_p1 10000 x1 u v 10000 0 [] [] = _ from e1, Option.bind_some]
  dsimp only
  rw [show f3_p5 10000 x1 a b 10000 0 [] = _ from e2, Option.bind_some]
  dsimp only
  rw [take0, e6, Option.bind_some]
  dsimp only
  rw [e7, Option.bind_some]
  dsimp only
  rw [if_neg (by decide), if_neg (by decide), hn', if_neg (by simp; omega), f8_eq (by omega) (by omega), Option.bind_some, if_neg (by simpa using hno), f9_eq (by omega), Option.bind_some, f9_1_eq (by omega), Option.bind_some, show f3_p15 10000 a b (nsale a b) (bestD n (nsale a b)) (W n (nsale a b) (-1)) x1 (sorted a) (sorted b) 10000 0 0 = _ from e15, Option.bind_some, e10, Option.bind_some]
  dsimp only
  rw [if_pos (by decide), if_pos (by simp), e11, Option.bind_some, if_pos (by decide), works12]
  rfl

end Go.Gh.Near
