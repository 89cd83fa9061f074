/- Fans: all completions, found in two ways, are the same. -/
import Derived.Test.YtidfbhlhogkfmaaFanZ
namespace Go.Gh.Fan
set_option linter.unusedVariables false
set_option linter.unusedSimpArgs false

/-- What stands in a fan stands there in another one, too. -/
def Sub (l x : List Int) : Prop := x.length = l.length ∧ ∀ i, i < l.length → atv l i ≠ 0 → atv x i = atv l i

/-- A completion. -/
def Q (n : Int) (w : Bool) (l x : List Int) : Prop := Val n w x ∧ posF 0 x 0 = [] ∧ Sub l x

theorem no_zero {x : List Int} : posF 0 x 0 = [] ↔ ∀ i, i < x.length → atv x i ≠ 0 := by
  constructor
  · intro h i hi e
    have := (mem_pos (x := (i : Int)) (l := x) (k := 0)).2 ⟨by omega, by rw [Int.toNat_natCast, get_atv hi, e]⟩
    rw [h] at this; cases this
  · intro h
    apply List.eq_nil_iff_forall_not_mem.2
    intro y hy
    obtain ⟨h1, h2⟩ := mem_pos.1 hy
    have hlt := (List.getElem?_eq_some_iff.1 h2).1
    rw [get_atv hlt] at h2
    exact h _ hlt (Option.some.inj h2)

theorem ext_atv {x y : List Int} (hl : x.length = y.length) (h : ∀ i, i < x.length → atv x i = atv y i) : x = y := by
  apply List.ext_getElem? fun i => ?_
  rcases Nat.lt_or_ge i x.length with g | g
  · rw [get_atv g, get_atv (by omega), h i g]
  · rw [List.getElem?_eq_none g, List.getElem?_eq_none (by omega)]

theorem mem_of_atv {l : List Int} {i : Nat} {k : Int} (h : i < l.length) (e : atv l i = k) : (i : Int) ∈ posF 0 l k :=
  mem_pos.2 ⟨by omega, by rw [Int.toNat_natCast, get_atv h, e]⟩
theorem atv_of_mem {l : List Int} {i : Nat} {k : Int} (h : (i : Int) ∈ posF 0 l k) : i < l.length ∧ atv l i = k := by
  obtain ⟨_, h2⟩ := mem_pos.1 h
  rw [Int.toNat_natCast] at h2
  have hlt := (List.getElem?_eq_some_iff.1 h2).1
  rw [get_atv hlt] at h2
  exact ⟨hlt, Option.some.inj h2⟩

theorem atv_set2 {l : List Int} {a b i : Nat} {x : Int} (ha : a < l.length) (hb : b < l.length) : atv (set2 l a b x) i = if i = a ∨ i = b then x else atv l i := by
  unfold atv
  rw [get_set2 ha hb]
  split <;> rfl

theorem full_sub {l x : List Int} (h : posF 0 l 0 = []) (hs : Sub l x) : x = l :=
  ext_atv hs.1 fun i hi => hs.2 i (by have := hs.1; omega) (no_zero.1 h i (by have := hs.1; omega))

theorem sub_self (l : List Int) : Sub l l := ⟨rfl, fun _ _ _ => rfl⟩

/-- A kind that is missing stands in a completion where it can be put. -/
theorem Q.put {n : Int} {w : Bool} {l x : List Int} (hq : Q n w l x) {k : Nat} (hk : 1 ≤ k ∧ (k : Int) ≤ n) (h0 : posF 0 l k = []) :
    ∃ a : Nat, posF 0 x k = [(a : Int), ((a + dN w k : Nat) : Int)] ∧ fitB w l k a = true ∧ Q n w (set2 l a (a + dN w k) k) x := by
  obtain ⟨vx, hf, hs⟩ := hq
  have hne := (vx.full.1 hf) (k : Int) (by omega) hk.2
  obtain ⟨a, e1, e2, _⟩ := vx.both hk hne
  have hl := hs.1
  have hz : ∀ i : Nat, (i : Int) ∈ posF 0 x k → atv l i = 0 := by
    intro i hi
    obtain ⟨g1, g2⟩ := atv_of_mem hi
    apply Classical.byContradiction
    intro q
    have := hs.2 i (by omega) q
    have := mem_of_atv (l := l) (k := (k : Int)) (show i < l.length by omega) (by omega)
    rw [h0] at this; cases this
  have z1 := hz a (by rw [e1]; simp)
  have z2 := hz (a + dN w k) (by rw [e1]; simp)
  have x1 := (atv_of_mem (i := a) (l := x) (k := (k : Int)) (by rw [e1]; simp)).2
  have x2 := (atv_of_mem (i := a + dN w k) (l := x) (k := (k : Int)) (by rw [e1]; simp)).2
  refine ⟨a, e1, by simp [fitB, z1, z2]; omega, vx, hf, by rw [set2_len]; exact hl, fun i hi hn => ?_⟩
  rw [set2_len] at hi
  rw [atv_set2 (by omega) (by omega)] at hn ⊢
  by_cases g : i = a ∨ i = a + dN w k
  · rw [if_pos g]
    rcases g with rfl | rfl
    · exact x1
    · exact x2
  · rw [if_neg g] at hn ⊢
    exact hs.2 i hi hn

theorem Q.of_put {n : Int} {w : Bool} {l x : List Int} {k p : Nat} (hk : 1 ≤ k) (hf : fitB w l k p = true) (hq : Q n w (set2 l p (p + dN w k) k) x) : Q n w l x := by
  obtain ⟨vx, h0, hs⟩ := hq
  have hfit := fit_of hf
  have hl := hs.1
  rw [set2_len] at hl
  refine ⟨vx, h0, hl, fun i hi hn => ?_⟩
  have g : ¬ (i = p ∨ i = p + dN w k) := by
    rintro (rfl | rfl)
    · exact hn hfit.2.1
    · exact hn hfit.2.2
  have := hs.2 i (by rw [set2_len]; exact hi)
  rw [atv_set2 (by omega) (by omega), if_neg g] at this
  exact this hn

/-- Where a kind was put it stands in all completions. -/
theorem Q.at_put {n : Int} {w : Bool} {l x : List Int} {k p : Nat} (hk : 1 ≤ k ∧ (k : Int) ≤ n) (hf : fitB w l k p = true) (hq : Q n w (set2 l p (p + dN w k) k) x) : posF 0 x k = [(p : Int), ((p + dN w k : Nat) : Int)] := by
  obtain ⟨vx, h0, hs⟩ := hq
  have hfit := fit_of hf
  have hl := hs.1
  rw [set2_len] at hl
  have e := hs.2 p (by rw [set2_len]; omega) (by rw [atv_set2 (by omega) (by omega)]; simp; omega)
  have e' := hs.2 (p + dN w k) (by rw [set2_len]; omega) (by rw [atv_set2 (by omega) (by omega)]; simp; omega)
  rw [atv_set2 (by omega) (by omega)] at e e'
  simp only [true_or, or_true, if_true] at e e'
  have m1 := mem_of_atv (show p < x.length by omega) e
  have m2 := mem_of_atv (show p + dN w k < x.length by omega) e'
  have hd := dN_rng (w := w) hk.1
  obtain ⟨a, e1, e2, _⟩ := vx.both hk (by intro q; rw [q] at m1; cases m1)
  rw [e1] at m1 m2 ⊢
  simp only [List.mem_cons, List.not_mem_nil, or_false] at m1 m2
  have : a = p := by omega
  rw [this]

theorem fit_may {w : Bool} {l : List Int} {k p : Nat} (h0 : posF 0 l k = []) : mayS w l k p = 0 ↔ fitB w l k p = true := by
  constructor
  · intro h; exact (may_zero h).2.1
  · intro h
    have := fit_of h
    simp [mayS, h0, h, show ¬ l.length ≤ p + dN w k by omega]

theorem compAt_mem {w : Bool} {sub : List Int → List (List Int)} {l : List Int} {k : Nat} {x : List Int} : ∀ (r p : Nat),
    x ∈ compAt w sub l k r p ↔ ∃ q, p ≤ q ∧ q < p + r ∧ mayS w l k q = 0 ∧ x ∈ sub (set2 l q (q + dN w k) k)
  | 0, p => by
    simp only [compAt, List.not_mem_nil, false_iff]
    rintro ⟨q, h1, h2, _⟩; omega
  | r + 1, p => by
    simp only [compAt, List.mem_append]
    rw [compAt_mem r (p + 1)]
    constructor
    · rintro (h | ⟨q, h1, h2, h3⟩)
      · split at h
        · exact ⟨p, Nat.le_refl _, by omega, by assumption, h⟩
        · cases h
      · exact ⟨q, by omega, by omega, h3⟩
    · rintro ⟨q, h1, h2, h3, h4⟩
      by_cases e : q = p
      · subst e
        left; rw [if_pos h3]; exact h4
      · right; exact ⟨q, by omega, by omega, h3, h4⟩

theorem comp_mem {n : Int} {w : Bool} {x : List Int} : ∀ (m : Nat) (l : List Int), Val n w l → (m : Int) ≤ n → (∀ j : Int, m < j → j ≤ n → posF 0 l j ≠ []) → (x ∈ comp w m l ↔ Q n w l x)
  | 0, l, v, _, hA => by
    have hf : posF 0 l 0 = [] := v.full.2 fun k h1 h2 => hA k (by omega) h2
    simp only [comp, List.mem_singleton]
    constructor
    · intro e; rw [e]; exact ⟨v, hf, sub_self l⟩
    · intro h; exact full_sub hf h.2.2
  | m + 1, l, v, hm, hA => by
    have hk : 1 ≤ m + 1 ∧ ((m + 1 : Nat) : Int) ≤ n := ⟨by omega, hm⟩
    unfold comp
    by_cases h0 : posF 0 l ((m + 1 : Nat) : Int) = []
    · rw [if_neg (fun q => q h0), compAt_mem]
      have hA' : ∀ (q : Nat), fitB w l (m + 1) q = true → ∀ j : Int, m < j → j ≤ n → posF 0 (set2 l q (q + dN w (m + 1)) ((m + 1 : Nat) : Int)) j ≠ [] := by
        intro q hf j h1 h2
        by_cases e : j = ((m + 1 : Nat) : Int)
        · rw [e, put_self v hk h0 hf]; simp
        · rw [put_other v hk h0 hf (by omega) e]
          exact hA j (by omega) h2
      constructor
      · rintro ⟨q, _, _, h3, h4⟩
        have hf := (fit_may h0).1 h3
        exact Q.of_put (by omega) hf ((comp_mem m _ (put_val v hk h0 hf) (by omega) (hA' q hf)).1 h4)
      · intro hq
        obtain ⟨a, _, hf, hq'⟩ := hq.put hk h0
        have := fit_of hf
        exact ⟨a, by omega, by omega, (fit_may h0).2 hf, (comp_mem m _ (put_val v hk h0 hf) (by omega) (hA' a hf)).2 hq'⟩
    · rw [if_pos h0]
      refine comp_mem m l v (by omega) fun j h1 h2 => ?_
      by_cases e : j = ((m + 1 : Nat) : Int)
      · rw [e]; exact h0
      · exact hA j (by omega) h2

theorem compAt_nodup {w : Bool} {sub : List Int → List (List Int)} {l : List Int} {k : Nat} (hs : ∀ q, mayS w l k q = 0 → (sub (set2 l q (q + dN w k) k)).Nodup)
    (hp : ∀ q x, mayS w l k q = 0 → x ∈ sub (set2 l q (q + dN w k) k) → posF 0 x k = [(q : Int), ((q + dN w k : Nat) : Int)]) : ∀ (r p : Nat), (compAt w sub l k r p).Nodup
  | 0, p => by simp [compAt]
  | r + 1, p => by
    simp only [compAt]
    rw [List.nodup_append]
    refine ⟨?_, compAt_nodup hs hp r (p + 1), fun a ha b hb e => ?_⟩
    · split
      · exact hs p (by assumption)
      · exact List.nodup_nil
    · subst e
      split at ha
      · rename_i h
        obtain ⟨q, h1, h2, h3, h4⟩ := (compAt_mem r (p + 1)).1 hb
        have e1 := hp p a h ha
        rw [hp q a h3 h4] at e1
        simp at e1; omega
      · cases ha

theorem comp_nodup {n : Int} {w : Bool} : ∀ (m : Nat) (l : List Int), Val n w l → (m : Int) ≤ n → (∀ j : Int, m < j → j ≤ n → posF 0 l j ≠ []) → (comp w m l).Nodup
  | 0, l, _, _, _ => by simp [comp]
  | m + 1, l, v, hm, hA => by
    have hk : 1 ≤ m + 1 ∧ ((m + 1 : Nat) : Int) ≤ n := ⟨by omega, hm⟩
    unfold comp
    by_cases h0 : posF 0 l ((m + 1 : Nat) : Int) = []
    · rw [if_neg (fun q => q h0)]
      have hA' : ∀ (q : Nat), fitB w l (m + 1) q = true → ∀ j : Int, m < j → j ≤ n → posF 0 (set2 l q (q + dN w (m + 1)) ((m + 1 : Nat) : Int)) j ≠ [] := by
        intro q hf j h1 h2
        by_cases e : j = ((m + 1 : Nat) : Int)
        · rw [e, put_self v hk h0 hf]; simp
        · rw [put_other v hk h0 hf (by omega) e]
          exact hA j (by omega) h2
      apply compAt_nodup
      · intro q hq
        have hf := (fit_may h0).1 hq
        exact comp_nodup m _ (put_val v hk h0 hf) (by omega) (hA' q hf)
      · intro q x hq hx
        have hf := (fit_may h0).1 hq
        exact Q.at_put hk hf ((comp_mem m _ (put_val v hk h0 hf) (by omega) (hA' q hf)).1 hx)
    · rw [if_pos h0]
      refine comp_nodup m l v (by omega) fun j h1 h2 => ?_
      by_cases e : j = ((m + 1 : Nat) : Int)
      · rw [e]; exact h0
      · exact hA j (by omega) h2

/-- All completions. -/
theorem all_mem {n : Int} {w : Bool} {l x : List Int} (v : Val n w l) : x ∈ comp w n.toNat l ↔ Q n w l x :=
  comp_mem n.toNat l v (by have := v.rng; omega) fun j h1 h2 => by have := v.rng; omega
theorem all_nodup {n : Int} {w : Bool} {l : List Int} (v : Val n w l) : (comp w n.toNat l).Nodup :=
  comp_nodup n.toNat l v (by have := v.rng; omega) fun j h1 h2 => by have := v.rng; omega

theorem Q.good {n : Int} {w : Bool} {l x : List Int} (h : Q n w l x) : atv x 0 ≠ 0 ∧ x.length = l.length := by
  have := h.1.len
  have := h.1.rng
  exact ⟨no_zero.1 h.2.1 0 (by omega), h.2.2.1⟩
theorem all_good {n : Int} {w : Bool} {l : List Int} (v : Val n w l) : AllGood (comp w n.toNat l) := fun x hx => ((all_mem v).1 hx).good.1

/- the reference's order: the first empty place gets each kind -/
def rcK (w : Bool) (sub : List Int → List (List Int)) (l : List Int) (e : Nat) : Nat → Nat → List (List Int)
  | 0, _ => []
  | m + 1, k => (if posF 0 l k = [] ∧ fitB w l k e = true then sub (set2 l e (e + dN w k) k) else []) ++ rcK w sub l e m (k + 1)

def rc (w : Bool) (n : Nat) : Nat → List Int → List (List Int)
  | 0, _ => []
  | f + 1, l => match posF 0 l 0 with
    | [] => [l]
    | e :: _ => rcK w (rc w n f) l e.toNat n 1

theorem rcK_mem {w : Bool} {sub : List Int → List (List Int)} {l : List Int} {e : Nat} {x : List Int} : ∀ (m k : Nat),
    x ∈ rcK w sub l e m k ↔ ∃ j, k ≤ j ∧ j < k + m ∧ posF 0 l j = [] ∧ fitB w l j e = true ∧ x ∈ sub (set2 l e (e + dN w j) j)
  | 0, k => by
    simp only [rcK, List.not_mem_nil, false_iff]
    rintro ⟨q, h1, h2, _⟩; omega
  | m + 1, k => by
    simp only [rcK, List.mem_append]
    rw [rcK_mem m (k + 1)]
    constructor
    · rintro (h | ⟨q, h1, h2, h3⟩)
      · split at h
        · rename_i g
          exact ⟨k, Nat.le_refl _, by omega, g.1, g.2, h⟩
        · cases h
      · exact ⟨q, by omega, by omega, h3⟩
    · rintro ⟨q, h1, h2, h3, h4, h5⟩
      by_cases e : q = k
      · subst e
        left; rw [if_pos ⟨h3, h4⟩]; exact h5
      · right; exact ⟨q, by omega, by omega, h3, h4, h5⟩

/-- How many kinds are missing. -/
def mis (n : Nat) (l : List Int) : Nat := S (fun i => if posF 0 l ((i + 1 : Nat) : Int) = [] then 1 else 0) n

theorem mis_lt {n : Nat} {w : Bool} {l : List Int} {k p : Nat} (v : Val (n : Int) w l) (hk : 1 ≤ k ∧ k ≤ n) (h0 : posF 0 l k = []) (hf : fitB w l k p = true) : mis n (set2 l p (p + dN w k) k) < mis n l := by
  have hk' : 1 ≤ k ∧ (k : Int) ≤ (n : Int) := by omega
  obtain ⟨j, rfl⟩ : ∃ j, k = j + 1 := ⟨k - 1, by omega⟩
  apply S_lt (x := j)
  · intro i _
    by_cases e : i = j
    · subst e; rw [put_self v hk' h0 hf]; simp
    · rw [put_other v hk' h0 hf (by omega) (by omega)]
      exact Nat.le_refl _
  · omega
  · rw [put_self v hk' h0 hf, h0]; simp

theorem mis_pos {n : Nat} {w : Bool} {l : List Int} (v : Val (n : Int) w l) (h : posF 0 l 0 ≠ []) : 0 < mis n l := by
  apply Classical.byContradiction
  intro hm
  refine h (v.full.2 fun k h1 h2 h3 => ?_)
  have : S (fun _ => 0) n < mis n l := by
    apply S_lt (x := (k - 1).toNat)
    · intro i _; exact Nat.zero_le _
    · omega
    · rw [show (((k - 1).toNat + 1 : Nat) : Int) = k by omega, if_pos h3]; omega
  omega

/-- The first empty place gets a missing kind in each completion. -/
theorem Q.first {n : Nat} {w : Bool} {l x : List Int} (v : Val (n : Int) w l) (hq : Q (n : Int) w l x) {e : Nat} (he : atv l e = 0) (hel : e < l.length) (hmin : ∀ i, i < e → atv l i ≠ 0) :
    ∃ k, 1 ≤ k ∧ k ≤ n ∧ posF 0 l k = [] ∧ fitB w l k e = true ∧ Q (n : Int) w (set2 l e (e + dN w k) k) x := by
  have hl := hq.2.2.1
  have hne := no_zero.1 hq.2.1 e (by omega)
  have hin := hq.1.inr _ (atv_mem (l := x) (p := e) (by omega))
  obtain ⟨k, hk⟩ := Int.eq_ofNat_of_zero_le hin.1
  have hk' : 1 ≤ k ∧ (k : Int) ≤ (n : Int) := by omega
  have hmem := mem_of_atv (show e < x.length by omega) hk
  have h0 : posF 0 l k = [] := by
    apply Classical.byContradiction
    intro g
    obtain ⟨b, b1, b2, _⟩ := v.both hk' g
    obtain ⟨a, a1, a2, _⟩ := hq.1.both hk' (by intro q; rw [q] at hmem; cases hmem)
    have hd := dN_rng (w := w) hk'.1
    have hb : ∀ i : Nat, (i : Int) ∈ posF 0 l k → (i : Int) ∈ posF 0 x k := by
      intro i hi
      obtain ⟨g1, g2⟩ := atv_of_mem hi
      exact mem_of_atv (by omega) (by rw [hq.2.2.2 i g1 (by rw [g2]; omega), g2])
    have m1 := hb b (by rw [b1]; simp)
    have m2 := hb (b + dN w k) (by rw [b1]; simp)
    rw [a1] at m1 m2 hmem
    simp only [List.mem_cons, List.not_mem_nil, or_false] at m1 m2 hmem
    have hab : a = b := by omega
    have : e = b ∨ e = b + dN w k := by omega
    have hz := fun i h => (atv_of_mem (l := l) (k := (k : Int)) (i := i) h).2
    rcases this with rfl | rfl
    · have := hz e (by rw [b1]; simp); omega
    · have := hz (b + dN w k) (by rw [b1]; simp); omega
  obtain ⟨a, a1, hf, hq'⟩ := hq.put hk' h0
  have hfit := fit_of hf
  have hae : a = e := by
    rw [a1] at hmem
    simp only [List.mem_cons, List.not_mem_nil, or_false] at hmem
    rcases hmem with g | g
    · omega
    · have hd := dN_rng (w := w) hk'.1
      exact absurd hfit.2.1 (hmin a (by omega))
  subst hae
  exact ⟨k, hk'.1, by omega, h0, hf, hq'⟩

theorem first_zero {l : List Int} {e : Int} {r : List Int} (h : posF 0 l 0 = e :: r) : atv l e.toNat = 0 ∧ e.toNat < l.length ∧ ∀ i, i < e.toNat → atv l i ≠ 0 := by
  have hm : e ∈ posF 0 l 0 := by rw [h]; simp
  have h0 := (mem_pos.1 hm).1
  obtain ⟨h1, h2⟩ := atv_of_mem (i := e.toNat) (l := l) (k := 0) (by rwa [show ((e.toNat : Nat) : Int) = e by omega])
  refine ⟨h2, h1, fun i hi q => ?_⟩
  have := mem_of_atv (l := l) (k := 0) (i := i) (by omega) q
  have hs := sorted_pos 0 l 0
  rw [h] at this hs
  rcases List.mem_cons.1 this with g | g
  · omega
  · have := (List.pairwise_cons.1 hs).1 _ g
    omega

theorem rc_mem {n : Nat} {w : Bool} {x : List Int} : ∀ (f : Nat) (l : List Int), Val (n : Int) w l → mis n l < f → (x ∈ rc w n f l ↔ Q (n : Int) w l x)
  | f + 1, l, v, hf => by
    unfold rc
    cases h : posF 0 l 0 with
    | nil =>
      simp only [List.mem_singleton]
      constructor
      · intro e; rw [e]; exact ⟨v, h, sub_self l⟩
      · intro hq; exact full_sub h hq.2.2
    | cons e r =>
      obtain ⟨h1, h2, h3⟩ := first_zero h
      simp only []
      rw [rcK_mem]
      constructor
      · rintro ⟨k, k1, k2, k3, k4, k5⟩
        have hk : 1 ≤ k ∧ (k : Int) ≤ (n : Int) := by omega
        have hlt := mis_lt v ⟨k1, by omega⟩ k3 k4
        exact Q.of_put k1 k4 ((rc_mem f _ (put_val v hk k3 k4) (by omega)).1 k5)
      · intro hq
        obtain ⟨k, k1, k2, k3, k4, k5⟩ := hq.first v h1 h2 h3
        have hk : 1 ≤ k ∧ (k : Int) ≤ (n : Int) := by omega
        have hlt := mis_lt v ⟨k1, k2⟩ k3 k4
        exact ⟨k, k1, by omega, k3, k4, (rc_mem f _ (put_val v hk k3 k4) (by omega)).2 k5⟩

/-- One completion comes before another one. -/
def Bef (x y : List Int) : Prop := cmpL (tab 16 (atv x)) (tab 16 (atv y)) < 0

theorem cmp_lt {a b : Int} : ∀ (x y : List Int) (e : Nat), (∀ i, i < e → x[i]? = y[i]?) → x[e]? = some a → y[e]? = some b → a < b → cmpL x y < 0
  | [], _, _, _, h, _, _ => by simp at h
  | _ :: _, [], _, _, _, h, _ => by simp at h
  | u :: x, z :: y, 0, _, h1, h2, h3 => by
    simp at h1 h2
    subst h1; subst h2
    simp [cmpL, h3]
  | u :: x, z :: y, e + 1, h, h1, h2, h3 => by
    have := h 0 (by omega)
    simp at this
    subst this
    have ih := cmp_lt x y e (fun i hi => by simpa using h (i + 1) (by omega)) (by simpa using h1) (by simpa using h2) h3
    simp only [cmpL, Int.lt_irrefl, if_false]
    exact ih

theorem cmp_irr : ∀ x : List Int, cmpL x x = 0
  | [] => rfl
  | a :: x => by simp [cmpL, cmp_irr x]

theorem cmp_trans : ∀ (x y z : List Int), cmpL x y < 0 → cmpL y z < 0 → cmpL x z < 0
  | [], [], _, h, _ => by simp [cmpL] at h
  | [], _ :: _, [], _, h => by simp [cmpL] at h
  | [], _ :: _, _ :: _, _, _ => by simp [cmpL]
  | _ :: _, [], _, h, _ => by simp [cmpL] at h
  | _ :: _, _ :: _, [], _, h => by simp [cmpL] at h
  | a :: x, b :: y, c :: z, h1, h2 => by
    simp only [cmpL] at h1 h2 ⊢
    by_cases g1 : a < b
    · by_cases g2 : b < c
      · rw [if_pos (by omega)]; omega
      · rw [if_neg g2] at h2
        by_cases g3 : c < b
        · rw [if_pos g3] at h2; omega
        · rw [if_pos (by omega)]; omega
    · rw [if_neg g1] at h1
      by_cases g2 : b < a
      · rw [if_pos g2] at h1; omega
      · rw [if_neg g2] at h1
        have e : a = b := by omega
        subst e
        by_cases g3 : a < c
        · rw [if_pos g3]; omega
        · rw [if_neg g3] at h2 ⊢
          by_cases g4 : c < a
          · rw [if_pos g4] at h2; omega
          · rw [if_neg g4] at h2 ⊢
            exact cmp_trans x y z h1 h2

theorem bef_of {x y : List Int} {e : Nat} (he : e < 16) (h : ∀ i, i < e → atv x i = atv y i) (hlt : atv x e < atv y e) : Bef x y :=
  cmp_lt _ _ e (fun i hi => by rw [tab_get (by omega), tab_get (by omega), h i hi]) (tab_get he) (tab_get he) hlt

theorem rcK_sorted {w : Bool} {n : Nat} {sub : List Int → List (List Int)} {l : List Int} {e : Nat} (he : e < 16) (hel : e < l.length) (hmin : ∀ i, i < e → atv l i ≠ 0)
    (hs : ∀ k, 1 ≤ k → k ≤ n → posF 0 l k = [] → fitB w l k e = true → (sub (set2 l e (e + dN w k) k)).Pairwise Bef ∧ ∀ x ∈ sub (set2 l e (e + dN w k) k), Sub (set2 l e (e + dN w k) k) x) :
    ∀ (m k : Nat), 1 ≤ k → k + m = n + 1 → (rcK w sub l e m k).Pairwise Bef
  | 0, k, _, _ => by simp [rcK]
  | m + 1, k, hk, hm => by
    simp only [rcK]
    rw [List.pairwise_append]
    refine ⟨?_, rcK_sorted he hel hmin hs m (k + 1) (by omega) (by omega), fun a ha b hb => ?_⟩
    · split
      · rename_i g
        exact (hs k hk (by omega) g.1 g.2).1
      · exact List.Pairwise.nil
    · split at ha
      · rename_i g
        obtain ⟨j, j1, j2, j3, j4, j5⟩ := (rcK_mem m (k + 1)).1 hb
        have sa := (hs k hk (by omega) g.1 g.2).2 a ha
        have sb := (hs j (by omega) (by omega) j3 j4).2 b j5
        have fa := fit_of g.2
        have fb := fit_of j4
        have va : ∀ i, i ≤ e → atv a i = if i = e then (k : Int) else atv l i := by
          intro i hi
          have hda := dN_rng (w := w) hk
          have := sa.2 i (by rw [set2_len]; omega)
          rw [atv_set2 hel fa.1] at this
          by_cases q : i = e
          · rw [if_pos (.inl q)] at this
            rw [if_pos q]; exact this (by omega)
          · rw [if_neg (by omega)] at this
            rw [if_neg q]; exact this (hmin i (by omega))
        have vb : ∀ i, i ≤ e → atv b i = if i = e then (j : Int) else atv l i := by
          intro i hi
          have hdb := dN_rng (w := w) (k := j) (by omega)
          have := sb.2 i (by rw [set2_len]; omega)
          rw [atv_set2 hel fb.1] at this
          by_cases q : i = e
          · rw [if_pos (.inl q)] at this
            rw [if_pos q]; exact this (by omega)
          · rw [if_neg (by omega)] at this
            rw [if_neg q]; exact this (hmin i (by omega))
        refine bef_of he (fun i hi => ?_) ?_
        · rw [va i (by omega), vb i (by omega), if_neg (by omega), if_neg (by omega)]
        · rw [va e (Nat.le_refl _), vb e (Nat.le_refl _), if_pos rfl, if_pos rfl]; omega
      · cases ha

theorem rc_sorted {n : Nat} {w : Bool} : ∀ (f : Nat) (l : List Int), Val (n : Int) w l → mis n l < f → (rc w n f l).Pairwise Bef
  | f + 1, l, v, hf => by
    have hr := v.rng
    have hlen := v.len
    unfold rc
    cases h : posF 0 l 0 with
    | nil => simp
    | cons e r =>
      obtain ⟨h1, h2, h3⟩ := first_zero h
      refine rcK_sorted (n := n) (by omega) h2 h3 (fun k k1 k2 k3 k4 => ?_) n 1 (by omega) (by omega)
      have hk : 1 ≤ k ∧ (k : Int) ≤ (n : Int) := by omega
      have hlt := mis_lt v ⟨k1, k2⟩ k3 k4
      have v' := put_val v hk k3 k4
      exact ⟨rc_sorted f _ v' (by omega), fun x hx => ((rc_mem f _ v' (by omega)).1 hx).2.2⟩

theorem bef_irr (x : List Int) : ¬ Bef x x := by unfold Bef; rw [cmp_irr]; omega

theorem rc_nodup {n : Nat} {w : Bool} {f : Nat} {l : List Int} (v : Val (n : Int) w l) (hf : mis n l < f) : (rc w n f l).Nodup :=
  (rc_sorted f l v hf).imp fun {a b} h e => by subst e; exact bef_irr a h

/-- Both ways find as many. -/
theorem same_len {n : Nat} {w : Bool} {f : Nat} {l : List Int} (v : Val (n : Int) w l) (hf : mis n l < f) : (rc w n f l).length = (comp w n l).length := by
  have hm : ∀ x, x ∈ rc w n f l ↔ x ∈ comp w n l := fun x => by
    have := all_mem (x := x) v
    rw [Int.toNat_natCast] at this
    rw [rc_mem f l v hf, this]
  have hn := all_nodup v
  rw [Int.toNat_natCast] at hn
  exact Nat.le_antisymm ((rc_nodup v hf).length_le_of_subset fun x hx => (hm x).1 hx) (hn.length_le_of_subset fun x hx => (hm x).2 hx)

/-- What is kept at last comes behind nothing. -/
theorem bet_min : ∀ (L : List (List Int)) (b : Option (List Int)) (y : List Int), L.foldl bet b = some y → (∀ x ∈ L, ¬ Bef x y) ∧ ∀ u, b = some u → ¬ Bef u y
  | [], b, y, h => ⟨by simp, fun u hu => by
    simp only [List.foldl_nil] at h
    rw [h] at hu; cases hu; exact bef_irr y⟩
  | x :: L, b, y, h => by
    obtain ⟨h1, h2⟩ := bet_min L (bet b x) y h
    cases b with
    | none =>
      refine ⟨fun z hz => ?_, fun u hu => by cases hu⟩
      rcases List.mem_cons.1 hz with rfl | hz
      · exact h2 z rfl
      · exact h1 z hz
    | some u =>
      by_cases g : Bef x u
      · have e : bet (some u) x = some x := by unfold bet; exact if_pos g
        have hx := h2 x e
        refine ⟨fun z hz => ?_, fun u' hu => ?_⟩
        · rcases List.mem_cons.1 hz with rfl | hz
          · exact hx
          · exact h1 z hz
        · cases hu
          intro q
          exact hx (cmp_trans _ _ _ g q)
      · have e : bet (some u) x = some u := by unfold bet; exact if_neg g
        have hu' := h2 u e
        refine ⟨fun z hz => ?_, fun u' hu => by cases hu; exact hu'⟩
        rcases List.mem_cons.1 hz with rfl | hz
        · intro q
          -- z comes before y, so y is not u's better; u is not behind y
          by_cases q2 : Bef y u
          · exact g (cmp_trans _ _ _ q q2)
          · exact absurd q (by
              intro q
              have := bet_mem L (some u) y (by rw [← e]; exact h)
              rcases this with hm | hm
              · exact bet_not L u y (by rw [← e]; exact h) hm q2 q g
              · cases hm; exact g q)
        · exact h1 z hz
where
  bet_mem : ∀ (L : List (List Int)) (b : Option (List Int)) (y : List Int), L.foldl bet b = some y → y ∈ L ∨ b = some y
    | [], _, _, h => .inr h
    | x :: L, b, y, h => by
      rcases bet_mem L (bet b x) y h with h | h
      · exact .inl (List.mem_cons_of_mem _ h)
      · unfold bet at h
        cases b with
        | none => cases h; exact .inl (List.mem_cons_self ..)
        | some u =>
          simp only at h
          split at h
          · cases h; exact .inl (List.mem_cons_self ..)
          · exact .inr h
  bet_not : ∀ (L : List (List Int)) (u y : List Int) {z : List Int}, L.foldl bet (some u) = some y → y ∈ L → ¬ Bef y u → Bef z y → ¬ Bef z u → False
    | L, u, y, z, h, hm, h1, h2, h3 => by
      -- the last one kept is u itself, or comes before it
      have key : ∀ (L : List (List Int)) (u : List Int), L.foldl bet (some u) = some y → y = u ∨ Bef y u := by
        intro L
        induction L with
        | nil => intro u h; simp only [List.foldl_nil, Option.some.injEq] at h; exact .inl h.symm
        | cons x L ih =>
          intro u h
          by_cases g : Bef x u
          · have e : bet (some u) x = some x := by unfold bet; exact if_pos g
            rw [List.foldl_cons, e] at h
            rcases ih x h with r | r
            · subst r; exact .inr g
            · exact .inr (cmp_trans _ _ _ r g)
          · have e : bet (some u) x = some u := by unfold bet; exact if_neg g
            rw [List.foldl_cons, e] at h
            exact ih u h
      rcases key L u h with e | e
      · subst e; exact h3 h2
      · exact h1 e

/-- The best completion is the reference's first one. -/
theorem same_head {n : Nat} {w : Bool} {f : Nat} {l : List Int} (v : Val (n : Int) w l) (hf : mis n l < f) : (comp w n l).foldl bet none = (rc w n f l).head? := by
  have hm : ∀ x, x ∈ rc w n f l ↔ x ∈ comp w n l := fun x => by
    have := all_mem (x := x) v
    rw [Int.toNat_natCast] at this
    rw [rc_mem f l v hf, this]
  have hs := rc_sorted f l v hf
  cases hb : (comp w n l).foldl bet none with
  | none =>
    have hnil : comp w n l = [] := by
      cases hc : comp w n l with
      | nil => rfl
      | cons x L =>
        rw [hc, List.foldl_cons] at hb
        have key : ∀ (L : List (List Int)) (u : List Int), L.foldl bet (some u) ≠ none := by
          intro L
          induction L with
          | nil => intro u h; cases h
          | cons y L ih =>
            intro u h
            rw [List.foldl_cons] at h
            unfold bet at h
            simp only at h
            split at h
            · exact ih _ h
            · exact ih _ h
        exact absurd hb (key L x)
    cases hr : rc w n f l with
    | nil => rfl
    | cons x L =>
      have := (hm x).1 (by rw [hr]; simp)
      rw [hnil] at this; cases this
  | some y =>
    have hy := bet_min _ _ _ hb
    have hmy : y ∈ comp w n l := by
      rcases bet_min.bet_mem _ _ _ hb with h | h
      · exact h
      · cases h
    cases hr : rc w n f l with
    | nil =>
      have := (hm y).2 hmy
      rw [hr] at this; cases this
    | cons x L =>
      have hx := (hm x).1 (by rw [hr]; simp)
      have hyr := (hm y).2 hmy
      rw [hr] at hyr hs
      rcases List.mem_cons.1 hyr with e | e
      · rw [e]; rfl
      · exact absurd ((List.pairwise_cons.1 hs).1 y e) (hy.1 x hx)

end Go.Gh.Fan
