/- TopW: ways: how many fillings there are (as for packet). -/
import Derived.Test.YtcaphjiiaclndaaDoorTopS
namespace Go.Gh.Top
set_option linter.unusedVariables false
set_option linter.unusedSimpArgs false

theorem at_of {α : Type} {l : List α} {i : Nat} {x : α} (h : l[i]? = some x) : at? l ((i : Nat) : Int) = some x := by
  unfold at?; simp [h]
theorem at_get {α : Type} {l : List α} {i : Nat} (h : i < l.length) : at? l ((i : Nat) : Int) = some l[i] := at_of (List.getElem?_eq_getElem h)
theorem drop_cons {α : Type} {l : List α} {i : Nat} (h : i < l.length) : l.drop i = l[i] :: l.drop (i + 1) := List.drop_eq_getElem_cons h
theorem w64_succ {n : Nat} (h : n < 1000000000) : w64 ((n : Int) + 1) = ((n + 1 : Nat) : Int) := by rw [w64_in (by omega)]; omega

/-- At most c - 1 packets of s, and what g tells of the rest. -/
def ws (s : Nat) (g : Nat → Int) : Nat → Nat → Int
  | 0, _ => 0
  | c + 1, x => g x + (if s ≤ x then ws s g c (x - s) else 0)

theorem ws_last {s : Nat} {g : Nat → Int} : ∀ c x : Nat, ws s g (c + 1) x = ws s g c x + (if c * s ≤ x then g (x - c * s) else 0)
  | 0, x => by simp [ws]
  | c + 1, x => by
    have e : (c + 1) * s = c * s + s := by rw [Nat.add_mul, Nat.one_mul]
    have d1 : ws s g (c + 1 + 1) x = g x + (if s ≤ x then ws s g (c + 1) (x - s) else 0) := rfl
    have d2 : ws s g (c + 1) x = g x + (if s ≤ x then ws s g c (x - s) else 0) := rfl
    rw [d1, d2, e]
    by_cases h : s ≤ x
    · rw [if_pos h, if_pos h, ws_last c (x - s)]
      by_cases h2 : c * s ≤ x - s
      · rw [if_pos h2, if_pos (by omega), show x - s - c * s = x - (c * s + s) by omega]; omega
      · rw [if_neg h2, if_neg (by omega)]; omega
    · rw [if_neg h, if_neg h, if_neg (by omega)]; omega
theorem ws_step {s : Nat} {g : Nat → Int} {c x : Nat} (h : s ≤ x) : ws s g (c + 1) x = g x + ws s g (c + 1) (x - s) - (if (c + 1) * s ≤ x then g (x - (c + 1) * s) else 0) := by
  have e : (c + 1) * s = c * s + s := by rw [Nat.add_mul, Nat.one_mul]
  rw [ws_last c (x - s), ws, if_pos h, e]
  by_cases h2 : c * s ≤ x - s
  · rw [if_pos h2, if_pos (by omega), show x - s - c * s = x - (c * s + s) by omega]; omega
  · rw [if_neg h2, if_neg (by omega)]; omega
theorem ws_small {s : Nat} {g : Nat → Int} {c x : Nat} (h : x < s) : ws s g (c + 1) x = g x := by rw [ws, if_neg (by omega)]; omega
theorem ws_bd {s : Nat} {g : Nat → Int} {B : Int} (hg : ∀ y, 0 ≤ g y ∧ g y ≤ B) : ∀ c x : Nat, 0 ≤ ws s g c x ∧ ws s g c x ≤ c * B
  | 0, x => by simp [ws]
  | c + 1, x => by
    have h1 := hg x
    have h2 := ws_bd (s := s) hg c (x - s)
    have h3 := hg 0
    have e : ((c + 1 : Nat) : Int) * B = c * B + B := by rw [Int.natCast_add, Int.add_mul]; simp
    have h4 : 0 ≤ (c : Int) * B := Int.mul_nonneg (by omega) (by omega)
    rw [ws, e]
    split <;> omega

def tab (N : Nat) (g : Nat → Int) : List Int := (List.range N).map g
theorem tab_len (N : Nat) (g : Nat → Int) : (tab N g).length = N := by simp [tab]
theorem tab_get {N i : Nat} (g : Nat → Int) (h : i < N) : (tab N g)[i]? = some (g i) := by
  unfold tab
  rw [List.getElem?_map, List.getElem?_range h]; rfl
theorem tab_at {N i : Nat} (g : Nat → Int) (h : i < N) : at? (tab N g) (i : Int) = some (g i) := at_of (tab_get g h)
theorem tab_congr {N : Nat} {g h : Nat → Int} (e : ∀ y, y < N → g y = h y) : tab N g = tab N h :=
  List.map_congr_left fun y hy => e y (List.mem_range.1 hy)
theorem tab_set {N i : Nat} (g : Nat → Int) (v : Int) : (tab N g).set i v = tab N (fun y => if y = i then v else g y) := by
  apply List.ext_getElem?
  intro k
  by_cases hk : k < N
  · rw [tab_get _ hk, List.getElem?_set, tab_len]
    by_cases h : i = k
    · subst h; simp [hk]
    · rw [if_neg h, tab_get _ hk, if_neg (fun e => h e.symm)]
  · rw [List.getElem?_eq_none (by simp [tab_len]; omega), List.getElem?_eq_none (by simp [tab_len]; omega)]
theorem tab_zero (N : Nat) : List.replicate N (0 : Int) = tab N (fun _ => 0) := by
  apply List.ext_getElem?
  intro k
  by_cases hk : k < N
  · rw [tab_get _ hk, List.getElem?_replicate, if_pos hk]
  · rw [List.getElem?_eq_none (by simp; omega), List.getElem?_eq_none (by simp [tab_len]; omega)]
theorem take_tab (N : Nat) (g : Nat → Int) : List.drop 0 (List.take (0 + N) (tab N g)) = tab N g := by
  rw [List.drop_zero, Nat.zero_add, List.take_of_length_le (by rw [tab_len]; exact Nat.le_refl _)]

def wf : (Nat → Int) → List Int → List Int → Nat → Int
  | g, s :: a, c :: b => wf (ws s.toNat g (c.toNat + 1)) a b
  | g, [], _ => g
  | g, _, [] => g
def g0 : Nat → Int := fun y => if y = 0 then 1 else 0
def W (a b : List Int) : Nat → Int := wf g0 a b

theorem f59_eq {F : Nat} {l : List Int} (h0 : l ≠ []) (hl : l.length ≤ 5000) : f59 F l = some l := by
  unfold f59
  rw [req_pos h0, req_pos (by simp; omega)]; rfl

theorem cs_cast {c s : Nat} (hs : 1 ≤ s ∧ s ≤ 30) (hc : c ≤ 41) : w64 ((c : Int) * s) = ((c * s : Nat) : Int) ∧ c * s ≤ 1230 := by
  have h : c * s ≤ 41 * 30 := Nat.mul_le_mul hc hs.2
  have e : (c : Int) * s = ((c * s : Nat) : Int) := by rw [Int.natCast_mul]
  refine ⟨?_, by omega⟩
  rw [e, w64_in (by omega)]

theorem f56_p5_eq {F : Nat} {a b x36 : List Int} {g : Nat → Int} {s c i : Nat} (hs : 1 ≤ s ∧ s ≤ 30) (hc : c ≤ 40) (hb : b[i]? = some (c : Int)) (hx : x36.length = 1001) (hg : ∀ y, 0 ≤ g y ∧ g y ≤ 115856201) :
    ∀ (k x : Nat) (h : Nat → Int), s ≤ x → x ≤ 1001 → 1001 < k + x → (∀ y, h y = if y < x then ws s g (c + 1) y else g y) →
    f56_p5_1 F (tab 1001 g) i s x36 a b k x (tab 1001 h) = some (tab 1001 (ws s g (c + 1))) := by
  intro k
  induction k with
  | zero => intro x h _ h1 h2; omega
  | succ k ih =>
    intro x h h0 h1 h2 hh
    unfold f56_p5_1
    by_cases hx1 : x ≤ 1000
    · have hgx := hg x
      have hw := ws_bd (s := s) hg (c + 1) (x - s)
      have hw' : ws s g (c + 1) (x - s) ≤ 41 * 115856201 := by
        have : ((c + 1 : Nat) : Int) * 115856201 ≤ 41 * 115856201 := Int.mul_le_mul_of_nonneg_right (by omega) (by decide)
        omega
      have e1 : h x = g x := by rw [hh, if_neg (by omega)]
      have e2 : h (x - s) = ws s g (c + 1) (x - s) := by rw [hh, if_pos (by omega)]
      have ex : w64 ((x : Int) - s) = ((x - s : Nat) : Int) := by rw [w64_in (by omega)]; omega
      have hcs := cs_cast (c := c + 1) hs (by omega)
      rw [if_pos (by simp; omega), req_pos (by rw [hx]; omega), Int.toNat_natCast, Nat.zero_add, tab_get _ (by omega), Option.bind_some, ex, req_pos (by rw [hx]; omega), Int.toNat_natCast, Nat.zero_add, tab_get _ (by omega), Option.bind_some, req_pos (by rw [tab_len]; omega), at_of hb, Option.bind_some, e1, e2]
      have hstep := ws_step (g := g) (c := c) h0
      have fin : f56_p8_5 F (tab 1001 g) i s x36 x c a b (tab 1001 h) (g x) (ws s g (c + 1) (x - s)) = some (tab 1001 (fun y => if y = x then ws s g (c + 1) x else h y)) := by
        unfold f56_p8_5
        have e3 : w64 ((x : Int) - w64 (w64 ((c : Int) + 1) * s)) = (x : Int) - (((c + 1) * s : Nat) : Int) := by
          rw [w64_succ (by omega), hcs.1, w64_in (by omega)]
        rw [e3, Int.toNat_natCast, Nat.zero_add, w64_in (n := g x + ws s g (c + 1) (x - s)) (by omega), tab_set]
        clear e3 hcs
        generalize (c + 1) * s = q at *
        by_cases hf : q ≤ x
        · have hgf := hg (x - q)
          rw [if_pos hf] at hstep
          rw [if_pos (by simp; omega), req_pos (by rw [hx]; omega), tab_get _ (by omega), Option.bind_some, show (x : Int) - ((q : Nat) : Int) = ((x - q : Nat) : Int) by omega, tab_at _ (by omega), Option.bind_some, req_pos (by rw [tab_len]; omega), tab_set, if_pos rfl]
          refine congrArg some (tab_congr fun y _ => ?_)
          by_cases hy : y = x
          · rw [if_pos hy, if_pos hy, w64_in (by omega)]; omega
          · rw [if_neg hy, if_neg hy, if_neg hy]
        · rw [if_neg hf] at hstep
          rw [if_neg (by simp; omega)]
          refine congrArg some (tab_congr fun y _ => ?_)
          by_cases hy : y = x
          · rw [if_pos hy, if_pos hy]; omega
          · rw [if_neg hy, if_neg hy]
      rw [fin, Option.bind_some, w64_succ (by omega)]
      refine ih (x + 1) _ (by omega) (by omega) (by omega) fun y => ?_
      by_cases hy : y = x
      · subst hy; rw [if_pos rfl, if_pos (by omega)]
      · rw [if_neg hy, hh]
        by_cases hyx : y < x
        · rw [if_pos hyx, if_pos (by omega)]
        · rw [if_neg hyx, if_neg (by omega)]
    · rw [if_neg (by simp; omega)]
      refine congrArg some (tab_congr fun y hy => ?_)
      rw [hh, if_pos (by omega)]

theorem pow41 {i : Nat} (h : i ≤ 5) : (0 : Int) ≤ 41 ^ i ∧ (41 : Int) ^ i ≤ 115856201 := by
  match i, h with
  | 0, _ => decide
  | 1, _ => decide
  | 2, _ => decide
  | 3, _ => decide
  | 4, _ => decide
  | 5, _ => decide
theorem ws_pow {s c i : Nat} {g : Nat → Int} (hc : c ≤ 40) (hg : ∀ y, 0 ≤ g y ∧ g y ≤ 41 ^ i) (y : Nat) : 0 ≤ ws s g (c + 1) y ∧ ws s g (c + 1) y ≤ 41 ^ (i + 1) := by
  have h := ws_bd (s := s) hg (c + 1) y
  have h0 := hg 0
  have h1 : ((c + 1 : Nat) : Int) * 41 ^ i ≤ 41 * 41 ^ i := Int.mul_le_mul_of_nonneg_right (by omega) (by omega)
  rw [Int.pow_succ, Int.mul_comm]
  omega

structure Good (a b : List Int) : Prop where
  len : b.length = a.length
  five : a.length ≤ 5
  sz : ∀ x ∈ a, 1 ≤ x ∧ x ≤ 30
  st : ∀ x ∈ b, 0 ≤ x ∧ x ≤ 40

theorem f56_p1_eq {F : Nat} (hF : 1100 ≤ F) {a b : List Int} (hab : Good a b) : ∀ (k i : Nat) (g : Nat → Int), i ≤ a.length → a.length < k + i → (∀ y, 0 ≤ g y ∧ g y ≤ 41 ^ i) →
    f56_p1 F a b k (tab 1001 g) i = some (tab 1001 (wf g (a.drop i) (b.drop i))) := by
  have h5 := hab.five
  have hl := hab.len
  intro k
  induction k with
  | zero => intro i g _ h; omega
  | succ k ih =>
    intro i g h1 h2 hg
    unfold f56_p1
    by_cases hi : i < a.length
    · have ha := hab.sz _ (List.getElem_mem hi)
      have hbi : i < b.length := by omega
      have hb := hab.st _ (List.getElem_mem hbi)
      obtain ⟨s, es⟩ : ∃ s : Nat, a[i] = s := ⟨a[i].toNat, by omega⟩
      obtain ⟨c, ec⟩ : ∃ c : Nat, b[i] = c := ⟨b[i].toNat, by omega⟩
      have hp := pow41 (i := i) (by omega)
      have hg' : ∀ y, 0 ≤ g y ∧ g y ≤ 115856201 := fun y => by have := hg y; omega
      rw [if_pos (by simp; omega), at_get hi, Option.bind_some, f59_eq (by intro h; have := congrArg List.length h; rw [tab_len] at this; simp at this) (by rw [tab_len]; omega), Option.bind_some, es]
      rw [f56_p5_eq (s := s) (c := c) (by omega) (by omega) (by rw [List.getElem?_eq_getElem hbi, ec]) (tab_len ..) hg' F s g (by omega) (by omega) (by omega) (fun y => by
        by_cases h : y < s
        · rw [if_pos h, ws_small h]
        · rw [if_neg h]), Option.bind_some, req_pos (by rw [tab_len, tab_len]; omega), tab_len, take_tab, w64_succ (by omega)]
      rw [ih (i + 1) _ (by omega) (by omega) (ws_pow (by omega) hg), drop_cons hi, drop_cons hbi, es, ec]
      rfl
    · rw [if_neg (by simp; omega), List.drop_eq_nil_of_le (by omega)]
      rfl
theorem f56_eq {F : Nat} (hF : 1100 ≤ F) {a b : List Int} (hab : Good a b) : f56 F a b = some (tab 1001 (W a b)) := by
  have e := f56_p1_eq hF hab F 0 g0 (by omega) (by have := hab.five; omega) (fun y => by unfold g0; split <;> decide)
  rw [List.drop_zero, List.drop_zero] at e
  unfold f56
  have e2 : (List.replicate 1001 (0 : Int)).set 0 1 = tab 1001 g0 := by
    rw [tab_zero, tab_set]; rfl
  rw [req_pos (by decide), req_pos (by rw [List.length_replicate]; decide), e2, req_pos (by rw [tab_len]; decide), show List.drop 0 (List.take 1001 (tab 1001 g0)) = tab 1001 g0 from take_tab 1001 g0, show f56_p1 F a b F (tab 1001 g0) 0 = _ from e, Option.bind_some]
  rfl


end Go.Gh.Top
