/- Packet: ways, totals, the next total, and spans: the program and the reference say the same. -/
import Derived.Test.YtkjlgbnbpeijbaaPackW
namespace Go.Gh.Pack
set_option linter.unusedVariables false
set_option linter.unusedSimpArgs false

theorem Good.of {a b : List Int} (h : stk a b = 0) : Good a b := by
  obtain ⟨h1, h2, h3⟩ := stk_zero h
  exact ⟨h2, (ck_zero h1).2.1, ck_all h1, h3⟩

theorem ways_eq {F : Nat} (hF : 1100 ≤ F) {a b : List Int} {n : Int} (hb : b.length ≤ 40) : ∃ v e, f36 F a b n = some (v, e) ∧ f37 F a b n = some (v, e) ∧ e = od a b n ∧ (od a b n = 0 → v = W a b n.toNat) := by
  unfold f36 f37
  rw [f73_eq (by omega) hb, f75_eq (by omega) hb, Option.bind_some, Option.bind_some, f62_eq, Option.bind_some]
  by_cases h : od a b n = 0
  · obtain ⟨h1, h2, h3⟩ := od_zero h
    have hab := Good.of h1
    obtain ⟨m, rfl⟩ : ∃ m : Nat, n = m := ⟨n.toNat, by omega⟩
    simp only [if_pos h1, h, bne_self_eq_false, Bool.false_eq_true, if_false]
    rw [f74_eq hF hab, Option.bind_some, tab_at _ (by omega), Option.bind_some, f76_eq hF (by omega) hab, Option.bind_some, tab_at _ (by omega), Option.bind_some]
    exact ⟨_, _, rfl, rfl, rfl, fun _ => by rw [Int.toNat_natCast]⟩
  · refine ⟨0, od a b n, ?_, ?_, rfl, fun e => absurd e h⟩
    · by_cases hs : stk a b = 0 <;> simp [hs, h]
    · simp [h]

/-- The numbers of which g tells more than nothing. -/
def pos (g : Nat → Int) : Nat → Nat → List Int
  | _, 0 => []
  | i, m + 1 => if g i > 0 then (i : Int) :: pos g (i + 1) m else pos g (i + 1) m
theorem pos_len (g : Nat → Int) : ∀ m i, (pos g i m).length ≤ m
  | 0, _ => by simp [pos]
  | m + 1, i => by
    have := pos_len g m (i + 1)
    simp only [pos]
    split <;> (try simp only [List.length_cons]) <;> omega

theorem f39_p2_eq {F : Nat} {g : Nat → Int} : ∀ (k i : Nat) (acc : List Int), i ≤ 1001 → 1001 < k + i → acc.length ≤ i → f39_p2 F (tab 1001 g) k i acc = some (acc ++ pos g i (1001 - i)) := by
  intro k
  induction k with
  | zero => intro i acc _ h; omega
  | succ k ih =>
    intro i acc h1 h2 h3
    unfold f39_p2
    rw [tab_len]
    by_cases hi : i < 1001
    · rw [if_pos (by simp; omega), tab_at _ hi, Option.bind_some, f39_p5_1, w64_succ (by omega), show 1001 - i = (1001 - (i + 1)) + 1 by omega, pos]
      by_cases h : g i > 0
      · rw [if_pos (by simpa using h), req_pos (by simp; omega), Option.bind_some, if_pos h, ih (i + 1) _ (by omega) (by omega) (by simp; omega)]
        simp
      · rw [if_neg (by simpa using h), Option.bind_some, if_neg h, ih (i + 1) _ (by omega) (by omega) (by omega)]
    · rw [if_neg (by simp; omega), show 1001 - i = 0 by omega]
      simp [pos]
theorem f78_1_p1_eq {F : Nat} {g : Nat → Int} : ∀ (k i : Nat) (acc : List Int), i ≤ 1001 → 1001 < k + i → acc.length ≤ i → f78_1_p1 F (tab 1001 g) k i acc = some (.c1 (acc ++ pos g i (1001 - i))) := by
  intro k
  induction k with
  | zero => intro i acc _ h; omega
  | succ k ih =>
    intro i acc h1 h2 h3
    unfold f78_1_p1
    rw [tab_len]
    by_cases hi : i < 1001
    · rw [if_pos (by simp; omega), tab_at _ hi, Option.bind_some, w64_succ (by omega), show 1001 - i = (1001 - (i + 1)) + 1 by omega, pos]
      by_cases h : g i > 0
      · rw [if_pos (by simpa using h), f79, req_pos (by simp; omega), Option.bind_some, if_pos h]
        show f78_1_p1 F (tab 1001 g) k ((i + 1 : Nat) : Int) _ = _
        rw [ih (i + 1) _ (by omega) (by omega) (by simp; omega)]
        simp
      · rw [if_neg (by simpa using h), if_neg h, ih (i + 1) _ (by omega) (by omega) (by omega)]
    · rw [if_neg (by simp; omega), show 1001 - i = 0 by omega]
      simp [pos]

def tots (a b : List Int) : List Int := if stk a b = 0 then pos (W a b) 0 1001 else []
theorem tots_len (a b : List Int) : (tots a b).length ≤ 1001 := by
  unfold tots
  split
  · exact pos_len _ _ _
  · simp
theorem f38_eq {F : Nat} (hF : 1100 ≤ F) {a b : List Int} (hb : b.length ≤ 40) : f38 F a b = some (tots a b, stk a b) := by
  unfold f38 tots
  rw [f77_eq (by omega) hb, Option.bind_some]
  by_cases h : stk a b = 0
  · simp only [if_pos h, bne_self_eq_false, Bool.false_eq_true, if_false]
    have e := f78_1_p1_eq (F := F) (g := W a b) F 0 [] (by omega) (by omega) (by simp)
    unfold f78_1
    rw [f74_eq hF (Good.of h), Option.bind_some, show f78_1_p1 F (tab 1001 (W a b)) F 0 [] = _ from e, Option.bind_some, Option.bind_some, List.nil_append, take0, h]
  · simp only [if_neg h, bne_iff_ne, ne_eq, not_false_eq_true, if_true]
    rw [if_pos h]
theorem f39_eq {F : Nat} (hF : 1100 ≤ F) {a b : List Int} (hb : b.length ≤ 40) : f39 F a b = some (tots a b, stk a b) := by
  unfold f39 tots
  rw [f75_eq (by omega) hb, Option.bind_some]
  by_cases h : stk a b = 0
  · rw [if_pos h]
    simp only [h, bne_self_eq_false, Bool.false_eq_true, if_false]
    have e := f39_p2_eq (F := F) (g := W a b) F 0 [] (by omega) (by omega) (by simp)
    have e6 := f76_eq (F := F) (n := 1000) hF (by omega) (Good.of h)
    rw [show f76 F a b 1000 = some (tab 1001 (W a b)) from e6, Option.bind_some, show f39_p2 F (tab 1001 (W a b)) F 0 [] = _ from e, Option.bind_some, List.nil_append, take0]
  · rw [if_neg h]
    simp only [bne_iff_ne, ne_eq, h, not_false_eq_true, if_true]

def nxt (g : Nat → Int) (n : Int) : Nat → Nat → Option Int
  | _, 0 => none
  | i, m + 1 => if g i > 0 ∧ n ≤ i then some i else nxt g n (i + 1) m
def lnx (n : Int) : List Int → Option Int
  | [] => none
  | x :: r => if x ≥ n then some x else lnx n r
theorem lnx_pos (g : Nat → Int) (n : Int) : ∀ m i, lnx n (pos g i m) = nxt g n i m
  | 0, _ => rfl
  | m + 1, i => by
    have ih := lnx_pos g n m (i + 1)
    simp only [pos, nxt]
    by_cases h : g i > 0
    · rw [if_pos h, lnx, ih]
      by_cases h2 : (i : Int) ≥ n
      · rw [if_pos h2, if_pos ⟨h, h2⟩]
      · rw [if_neg h2, if_neg (fun e => h2 e.2)]
    · rw [if_neg h, ih, if_neg (fun e => h e.1)]

theorem f78_p1_eq {F : Nat} {g : Nat → Int} {n : Int} : ∀ (k i : Nat), i ≤ 1001 → 1001 < k + i → f78_p1 F (tab 1001 g) n k i 12 0 = some (match nxt g n i (1001 - i) with | some v => .c0 0 v | none => .c1 12 0) := by
  intro k
  induction k with
  | zero => intro i _ h; omega
  | succ k ih =>
    intro i h1 h2
    unfold f78_p1
    rw [tab_len]
    by_cases hi : i < 1001
    · rw [if_pos (by simp; omega), tab_at _ hi, Option.bind_some, w64_succ (by omega), show 1001 - i = (1001 - (i + 1)) + 1 by omega, nxt]
      by_cases h : g i > 0
      · rw [if_pos (by simpa using h), f80, f80_p0]
        by_cases h3 : (i : Int) ≥ n
        · rw [if_pos (by simpa using h3), if_pos ⟨h, h3⟩]
          rfl
        · rw [if_neg (by simpa using h3), if_neg (fun e => h3 e.2)]
          exact ih (i + 1) (by omega) (by omega)
      · rw [if_neg (by simpa using h), if_neg (fun e => h e.1), ih (i + 1) (by omega) (by omega)]
    · rw [if_neg (by simp; omega), show 1001 - i = 0 by omega]
      rfl
theorem f41_p2_eq {F : Nat} {l : List Int} {n : Int} (hl : l.length ≤ 1001) : ∀ (k i : Nat), i ≤ l.length → l.length < k + i → f41_p2 F n l k i = some (match lnx n (l.drop i) with | some v => .c0 v | none => .c1) := by
  intro k
  induction k with
  | zero => intro i _ h; omega
  | succ k ih =>
    intro i h1 h2
    unfold f41_p2
    by_cases hi : i < l.length
    · rw [if_pos (by simp; omega), at_get hi, Option.bind_some, w64_succ (by omega), drop_cons hi, lnx]
      by_cases h : l[i] ≥ n
      · rw [if_pos (by simpa using h), if_pos h]
      · rw [if_neg (by simpa using h), if_neg h, ih (i + 1) (by omega) (by omega)]
    · rw [if_neg (by simp; omega), List.drop_eq_nil_of_le (by omega)]
      rfl

/-- What Least answers. -/
def lea (a b : List Int) (n : Int) : Int × Int := if od a b n = 0 then (match nxt (W a b) n 0 1001 with | some v => (v, 0) | none => (0, 12)) else (0, od a b n)
theorem f40_eq {F : Nat} (hF : 1100 ≤ F) {a b : List Int} {n : Int} (hb : b.length ≤ 40) : f40 F a b n = some (lea a b n) := by
  unfold f40 lea
  rw [f73_eq (by omega) hb, Option.bind_some]
  by_cases h : od a b n = 0
  · have h1 := (od_zero h).1
    simp only [if_pos h1, h, bne_self_eq_false, Bool.false_eq_true, if_false, if_true]
    have e := f78_p1_eq (F := F) (g := W a b) (n := n) F 0 (by omega) (by omega)
    unfold f78
    rw [f74_eq hF (Good.of h1), Option.bind_some, show f78_p1 F (tab 1001 (W a b)) n F 0 12 0 = _ from e, Option.bind_some]
    cases nxt (W a b) n 0 (1001 - 0) <;> rfl
  · rw [if_neg h]
    by_cases hs : stk a b = 0 <;> simp [hs, h]
theorem f41_eq {F : Nat} (hF : 1100 ≤ F) {a b : List Int} {n : Int} (hb : b.length ≤ 40) : f41 F a b n = some (lea a b n) := by
  unfold f41 lea
  rw [f75_eq (by omega) hb, Option.bind_some, f62_eq, Option.bind_some]
  by_cases h : od a b n = 0
  · have h1 := (od_zero h).1
    simp only [h, bne_self_eq_false, Bool.false_eq_true, if_false, if_true]
    have e := f41_p2_eq (F := F) (l := tots a b) (n := n) (tots_len a b) F 0 (by omega) (by have := tots_len a b; omega)
    rw [f39_eq hF hb, Option.bind_some, show f41_p2 F n (tots a b) F 0 = _ from e, Option.bind_some, List.drop_zero, tots, if_pos h1, lnx_pos]
    cases nxt (W a b) n 0 1001 <;> rfl
  · rw [if_neg h, if_pos (by simpa using h)]

theorem ws_pos {s : Nat} {g : Nat → Int} (hg : ∀ y, 0 ≤ g y) : ∀ c x : Nat, 0 ≤ ws s g c x
  | 0, x => by simp [ws]
  | c + 1, x => by
    have h1 := hg x
    have h2 := ws_pos (s := s) hg c (x - s)
    rw [ws]
    split <;> omega
theorem wf_pos : ∀ (a b : List Int) (g : Nat → Int), (∀ y, 0 ≤ g y) → ∀ y, 0 ≤ wf g a b y
  | [], _, g, hg, y => by simpa [wf] using hg y
  | _ :: _, [], g, hg, y => by simpa [wf] using hg y
  | s :: a, c :: b, g, hg, y => by
    rw [wf]
    exact wf_pos a b _ (fun y => ws_pos hg _ y) y
theorem W_pos (a b : List Int) (y : Nat) : 0 ≤ W a b y := wf_pos a b g0 (fun y => by unfold g0; split <;> decide) y

/-- The answers of both spans so far. -/
def Sp (p q e u v : Int) : Prop := (e = 12 ∧ p = 0 ∧ q = 0 ∧ u = -1 ∧ v = -1) ∨ (e = 0 ∧ u = p ∧ v = q ∧ 0 ≤ p)

theorem span_loop {F n : Nat} (hn : n ≤ 1000) {a b r : List Int} {g : Nat → Int} (hg : ∀ y, 0 ≤ g y) {i s c : Nat} (hs : 1 ≤ s ∧ s ≤ 30) (hc : c ≤ 40) (ha : a[i]? = some (s : Int)) (hb : b[i]? = some (c : Int)) :
    ∀ (k j : Nat) (p q e u v : Int), j ≤ c + 1 → c + 1 < k + j → Sp p q e u v →
    ∃ p' q' e' u' v', f42_p4 F n i (tab 1001 g) c a b k p q e j = some (p', q', e') ∧ f43_p3 F a b n i (tab (n + 1) g) k u v j = some (u', v') ∧ Sp p' q' e' u' v' := by
  intro k
  induction k with
  | zero => intro j p q e u v _ h; omega
  | succ k ih =>
    intro j p q e u v h1 h2 hS
    unfold f42_p4 f43_p3
    rw [w64_succ (by omega), at_of hb, Option.bind_some]
    by_cases hj : j ≤ c
    · have hcs := cs_cast (c := j) hs (by omega)
      rw [if_pos (by simp; omega), if_pos (by simp; omega), at_of ha, Option.bind_some, Option.bind_some, hcs.1]
      by_cases hx : j * s ≤ n
      · have hgx := hg (n - j * s)
        rw [show w64 ((n : Int) - ((j * s : Nat) : Int)) = ((n - j * s : Nat) : Int) by rw [w64_in (by omega)]; omega]
        rw [if_neg (by simp only [decide_eq_true_eq]; omega), if_pos (by simp only [decide_eq_true_eq]; omega), tab_at _ (by omega), tab_at _ (by omega), Option.bind_some, Option.bind_some, w64_succ (by omega)]
        unfold f42_p10 f43_p6 f43_p7
        generalize g (n - j * s) = z at *
        by_cases h0 : z = 0
        · subst h0
          simp only [beq_self_eq_true, if_true, gt_iff_lt, Int.lt_irrefl, decide_false, Bool.false_eq_true, if_false, Option.bind_some]
          exact ih (j + 1) _ _ _ _ _ (by omega) (by omega) hS
        · have d1 : (z == 0) = false := by simpa using h0
          have d2 : decide (z > 0) = true := decide_eq_true (by omega)
          rcases hS with ⟨rfl, rfl, rfl, rfl, rfl⟩ | ⟨rfl, rfl, rfl, hp⟩
          · simp only [d1, d2, if_true, Bool.false_eq_true, if_false, show ((12 : Int) != 0) = true from rfl, show decide ((-1 : Int) < 0) = true from rfl, Option.bind_some]
            exact ih (j + 1) _ _ _ _ _ (by omega) (by omega) (.inr ⟨rfl, rfl, rfl, by omega⟩)
          · have d3 : decide (u < 0) = false := decide_eq_false (by omega)
            simp only [d1, d2, d3, if_true, Bool.false_eq_true, if_false, bne_self_eq_false, Option.bind_some]
            exact ih (j + 1) _ _ _ _ _ (by omega) (by omega) (.inr ⟨rfl, rfl, rfl, hp⟩)
      · rw [show w64 ((n : Int) - ((j * s : Nat) : Int)) = (n : Int) - ((j * s : Nat) : Int) by rw [w64_in (by omega)]]
        rw [if_pos (by simp only [decide_eq_true_eq]; omega), if_neg (by simp only [decide_eq_true_eq]; omega)]
        exact ⟨_, _, _, _, _, rfl, rfl, hS⟩
    · rw [if_neg (by simp; omega), if_neg (by simp; omega)]
      exact ⟨_, _, _, _, _, rfl, rfl, hS⟩

theorem Good.setZero {a b : List Int} (h : Good a b) (i : Nat) : Good a (b.set i 0) := ⟨by simpa using h.len, h.five, h.sz, fun x hx => by
  rcases List.mem_or_eq_of_mem_set hx with hx | rfl
  · exact h.st x hx
  · decide⟩

theorem span_eq {F : Nat} (hF : 1100 ≤ F) {a b : List Int} {n i : Int} (hb : b.length ≤ 40) (ha : a.length ≤ 40) : ∃ p q e, f42 F a b n i = some (p, q, e) ∧ f43 F a b n i = some (p, q, e) := by
  unfold f42 f43
  rw [f73_eq (by omega) hb, f75_eq (by omega) hb, Option.bind_some, Option.bind_some, f62_eq, Option.bind_some]
  by_cases h : od a b n = 0
  · obtain ⟨h1, h2, h3⟩ := od_zero h
    have hab := Good.of h1
    obtain ⟨m, rfl⟩ : ∃ m : Nat, n = m := ⟨n.toNat, by omega⟩
    simp only [if_pos h1, h, bne_self_eq_false, beq_self_eq_true, Bool.false_eq_true, if_false, if_true, f67_eq, f69_eq, Option.bind_some, decide_eq_true_eq, f43_p0]
    have ew : w64 ((a.length : Int) - 1) = (a.length : Int) - 1 := w64_in (by omega)
    rw [ew]
    by_cases hi : 0 ≤ i ∧ i ≤ (a.length : Int) - 1
    · obtain ⟨j, rfl⟩ : ∃ j : Nat, i = j := ⟨i.toNat, by omega⟩
      have hl := hab.len
      have hja : j < a.length := by omega
      have hjb : j < b.length := by omega
      rw [if_pos hi, if_pos hi, Option.bind_some, f47_1m_eq (by omega), Option.bind_some, if_neg (by decide)]
      simp only [List.nil_append, Int.toNat_natCast, Nat.zero_add, List.drop_zero]
      rw [req_pos (by omega), req_pos hjb, req_pos (by simp), req_pos (by simp; omega), req_pos (by omega), req_pos hjb, req_pos (by simp)]
      have et : List.take b.length (b.set j 0) = b.set j 0 := List.take_of_length_le (by simp)
      have hg2 := hab.setZero j
      rw [et, f74_eq hF hg2, Option.bind_some, f76_eq hF (by omega) hg2, Option.bind_some, at_get hjb, Option.bind_some]
      have hsa := hab.sz _ (List.getElem_mem hja)
      have hsb := hab.st _ (List.getElem_mem hjb)
      obtain ⟨s, es⟩ : ∃ s : Nat, a[j] = s := ⟨a[j].toNat, by omega⟩
      obtain ⟨c, ec⟩ : ∃ c : Nat, b[j] = c := ⟨b[j].toNat, by omega⟩
      obtain ⟨p, q, e, u, v, r1, r2, r3⟩ := span_loop (F := F) (n := m) (by omega) (a := a) (b := b) (r := []) (g := W a (b.set j 0)) (W_pos _ _) (i := j) (s := s) (c := c) (by omega) (by omega) (by rw [List.getElem?_eq_getElem hja, es]) (by rw [List.getElem?_eq_getElem hjb, ec]) F 0 0 0 12 (-1) (-1) (by omega) (by omega) (.inl ⟨rfl, rfl, rfl, rfl, rfl⟩)
      rw [ec, show f42_p4 F m j (tab 1001 (W a (b.set j 0))) c a b F 0 0 12 0 = _ from r1, show f43_p3 F a b m j (tab (m + 1) (W a (b.set j 0))) F (-1) (-1) 0 = _ from r2, Option.bind_some, Option.bind_some]
      rcases r3 with ⟨rfl, rfl, rfl, rfl, rfl⟩ | ⟨rfl, rfl, rfl, hp⟩
      · exact ⟨_, _, _, rfl, rfl⟩
      · dsimp only
        rw [if_neg (by omega)]
        exact ⟨_, _, _, rfl, rfl⟩
    · rw [if_neg hi, if_neg hi, Option.bind_some, if_pos (by decide)]
      exact ⟨_, _, _, rfl, rfl⟩
  · refine ⟨0, 0, od a b n, ?_, ?_⟩
    · by_cases hs : stk a b = 0 <;> simp [hs, h]
    · simp [h]

theorem f15_eq {F : Nat} (a b c : List Int) : ∃ z, f15 F a b c = some z ∧ (z = false → a.length ≤ 40 ∧ b.length ≤ 40 ∧ c.length ≤ 40) := by
  unfold f15
  by_cases h1 : (a.length : Int) > 40
  · rw [if_pos (by simpa using h1)]; exact ⟨_, rfl, fun h => by cases h⟩
  · rw [if_neg (by simpa using h1)]
    by_cases h2 : (b.length : Int) > 40
    · rw [if_pos (by simpa using h2)]; exact ⟨_, rfl, fun h => by cases h⟩
    · rw [if_neg (by simpa using h2)]
      refine ⟨_, rfl, fun h => ?_⟩
      have := of_decide_eq_false h
      omega

theorem f5_of {F : Nat} (hF : 1100 ≤ F) (hF2 : F ≤ 5000) (works : f16 F = some true) (a b : List Int) (n k : Int) : f5 F a b n k = some true := by
  unfold f5
  obtain ⟨z, e1, e2⟩ := f15_eq (F := F) a b []
  rw [e1, Option.bind_some, works]
  cases z with
  | true => rfl
  | false =>
    obtain ⟨ha, hb, _⟩ := e2 rfl
    obtain ⟨v, e, w1, w2, _⟩ := ways_eq (n := n) hF hb (a := a)
    obtain ⟨p, q, r, s1, s2⟩ := span_eq (n := n) (i := k) hF hb ha
    have t := f23_eq (F := F) (a := tots a b) (b := tots a b) (by have := tots_len a b; omega) hF2
    rw [w1, w2, f38_eq hF hb, f39_eq hF hb, f40_eq hF hb, f41_eq hF hb, s1, s2]
    simp only [Option.bind_some, Bool.false_eq_true, if_false, bne_self_eq_false, t, decide_true, if_true, beq_self_eq_true]

end Go.Gh.Pack
