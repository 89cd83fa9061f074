/- Packet: ways, totals, the next total, spans: what the program answers. -/
import Derived.Test.YtkjlgbnbpeijbaaPackW
namespace Go.Gh.Pack
set_option linter.unusedVariables false
set_option linter.unusedSimpArgs false

theorem Good.of {a b : List Int} (h : stk a b = 0) : Good a b := by
  obtain ⟨h1, h2, h3⟩ := stk_zero h
  exact ⟨h2, (ck_zero h1).2.1, ck_all h1, h3⟩

theorem f36_eq {F : Nat} (hF : 1100 ≤ F) {a b : List Int} {n : Int} (hb : b.length ≤ 40) : f36 F a b n = some (if od a b n = 0 then (W a b n.toNat, 0) else (0, od a b n)) := by
  unfold f36
  rw [f73_eq (by omega) hb, Option.bind_some]
  by_cases h : od a b n = 0
  · obtain ⟨h1, h2, h3⟩ := od_zero h
    have hab := Good.of h1
    obtain ⟨m, rfl⟩ : ∃ m : Nat, n = m := ⟨n.toNat, by omega⟩
    rw [if_pos h]
    simp only [if_pos h1, h, bne_self_eq_false, Bool.false_eq_true, if_false]
    rw [f74_eq hF hab, Option.bind_some, tab_at _ (by omega), Option.bind_some, Int.toNat_natCast]
  · rw [if_neg h]
    by_cases hs : stk a b = 0 <;> simp [hs, h]

/-- The numbers of which g tells more than nothing. -/
def pos (g : Nat → Int) : Nat → Nat → List Int
  | _, 0 => []
  | i, m + 1 => if g i > 0 then (i : Int) :: pos g (i + 1) m else pos g (i + 1) m
theorem pos_len (g : Nat → Int) : ∀ m i, (pos g i m).length ≤ m
  | 0, _ => by simp [pos]
  | m + 1, i => by
    have := pos_len g m (i + 1)
    simp only [pos]
    split <;> (try simp only [List.length_cons]) <;> omega

theorem f78_1_p1_eq {F : Nat} {g : Nat → Int} : ∀ (k i : Nat) (acc : List Int), i ≤ 1001 → 1001 < k + i → acc.length ≤ i → f78_1_p1 F (tab 1001 g) k i acc = some (.c1 (acc ++ pos g i (1001 - i))) := by
  intro k
  induction k with
  | zero => intro i acc _ h; omega
  | succ k ih =>
    intro i acc h1 h2 h3
    unfold f78_1_p1
    rw [tab_len]
    by_cases hi : i < 1001
    · rw [if_pos (by simp; omega), tab_at _ hi, Option.bind_some, w64_succ (by omega), show 1001 - i = (1001 - (i + 1)) + 1 by omega, pos]
      by_cases h : g i > 0
      · rw [if_pos (by simpa using h), f79, req_pos (by simp; omega), Option.bind_some, if_pos h]
        show f78_1_p1 F (tab 1001 g) k ((i + 1 : Nat) : Int) _ = _
        rw [ih (i + 1) _ (by omega) (by omega) (by simp; omega)]
        simp
      · rw [if_neg (by simpa using h), if_neg h, ih (i + 1) _ (by omega) (by omega) (by omega)]
    · rw [if_neg (by simp; omega), show 1001 - i = 0 by omega]
      simp [pos]

def tots (a b : List Int) : List Int := if stk a b = 0 then pos (W a b) 0 1001 else []
theorem tots_len (a b : List Int) : (tots a b).length ≤ 1001 := by
  unfold tots
  split
  · exact pos_len _ _ _
  · simp
theorem f38_eq {F : Nat} (hF : 1100 ≤ F) {a b : List Int} (hb : b.length ≤ 40) : f38 F a b = some (tots a b, stk a b) := by
  unfold f38 tots
  rw [f77_eq (by omega) hb, Option.bind_some]
  by_cases h : stk a b = 0
  · simp only [if_pos h, bne_self_eq_false, Bool.false_eq_true, if_false]
    have e := f78_1_p1_eq (F := F) (g := W a b) F 0 [] (by omega) (by omega) (by simp)
    unfold f78_1
    rw [f74_eq hF (Good.of h), Option.bind_some, show f78_1_p1 F (tab 1001 (W a b)) F 0 [] = _ from e, Option.bind_some, Option.bind_some, List.nil_append, take0, h]
  · simp only [if_neg h, bne_iff_ne, ne_eq, not_false_eq_true, if_true]
    rw [if_pos h]
def nxt (g : Nat → Int) (n : Int) : Nat → Nat → Option Int
  | _, 0 => none
  | i, m + 1 => if g i > 0 ∧ n ≤ i then some i else nxt g n (i + 1) m
theorem f78_p1_eq {F : Nat} {g : Nat → Int} {n : Int} : ∀ (k i : Nat), i ≤ 1001 → 1001 < k + i → f78_p1 F (tab 1001 g) n k i 12 0 = some (match nxt g n i (1001 - i) with | some v => .c0 0 v | none => .c1 12 0) := by
  intro k
  induction k with
  | zero => intro i _ h; omega
  | succ k ih =>
    intro i h1 h2
    unfold f78_p1
    rw [tab_len]
    by_cases hi : i < 1001
    · rw [if_pos (by simp; omega), tab_at _ hi, Option.bind_some, w64_succ (by omega), show 1001 - i = (1001 - (i + 1)) + 1 by omega, nxt]
      by_cases h : g i > 0
      · rw [if_pos (by simpa using h), f80, f80_p0]
        by_cases h3 : (i : Int) ≥ n
        · rw [if_pos (by simpa using h3), if_pos ⟨h, h3⟩]
          rfl
        · rw [if_neg (by simpa using h3), if_neg (fun e => h3 e.2)]
          exact ih (i + 1) (by omega) (by omega)
      · rw [if_neg (by simpa using h), if_neg (fun e => h e.1), ih (i + 1) (by omega) (by omega)]
    · rw [if_neg (by simp; omega), show 1001 - i = 0 by omega]
      rfl
/-- What Least answers. -/
def lea (a b : List Int) (n : Int) : Int × Int := if od a b n = 0 then (match nxt (W a b) n 0 1001 with | some v => (v, 0) | none => (0, 12)) else (0, od a b n)
theorem f40_eq {F : Nat} (hF : 1100 ≤ F) {a b : List Int} {n : Int} (hb : b.length ≤ 40) : f40 F a b n = some (lea a b n) := by
  unfold f40 lea
  rw [f73_eq (by omega) hb, Option.bind_some]
  by_cases h : od a b n = 0
  · have h1 := (od_zero h).1
    simp only [if_pos h1, h, bne_self_eq_false, Bool.false_eq_true, if_false, if_true]
    have e := f78_p1_eq (F := F) (g := W a b) (n := n) F 0 (by omega) (by omega)
    unfold f78
    rw [f74_eq hF (Good.of h1), Option.bind_some, show f78_p1 F (tab 1001 (W a b)) n F 0 12 0 = _ from e, Option.bind_some]
    cases nxt (W a b) n 0 (1001 - 0) <;> rfl
  · rw [if_neg h]
    by_cases hs : stk a b = 0 <;> simp [hs, h]
theorem Good.setZero {a b : List Int} (h : Good a b) (i : Nat) : Good a (b.set i 0) := ⟨by simpa using h.len, h.five, h.sz, fun x hx => by
  rcases List.mem_or_eq_of_mem_set hx with hx | rfl
  · exact h.st x hx
  · decide⟩


def lnx (n : Int) : List Int → Option Int
  | [] => none
  | x :: r => if x ≥ n then some x else lnx n r
theorem lnx_pos (g : Nat → Int) (n : Int) : ∀ m i, lnx n (pos g i m) = nxt g n i m
  | 0, _ => rfl
  | m + 1, i => by
    have ih := lnx_pos g n m (i + 1)
    simp only [pos, nxt]
    by_cases h : g i > 0
    · rw [if_pos h, lnx, ih]
      by_cases h2 : (i : Int) ≥ n
      · rw [if_pos h2, if_pos ⟨h, h2⟩]
      · rw [if_neg h2, if_neg (fun e => h2 e.2)]
    · rw [if_neg h, ih, if_neg (fun e => h e.1)]

theorem ws_pos {s : Nat} {g : Nat → Int} (hg : ∀ y, 0 ≤ g y) : ∀ c x : Nat, 0 ≤ ws s g c x
  | 0, x => by simp [ws]
  | c + 1, x => by
    have h1 := hg x
    have h2 := ws_pos (s := s) hg c (x - s)
    rw [ws]
    split <;> omega
theorem wf_pos : ∀ (a b : List Int) (g : Nat → Int), (∀ y, 0 ≤ g y) → ∀ y, 0 ≤ wf g a b y
  | [], _, g, hg, y => by simpa [wf] using hg y
  | _ :: _, [], g, hg, y => by simpa [wf] using hg y
  | s :: a, c :: b, g, hg, y => by
    rw [wf]
    exact wf_pos a b _ (fun y => ws_pos hg _ y) y
theorem W_pos (a b : List Int) (y : Nat) : 0 ≤ W a b y := wf_pos a b g0 (fun y => by unfold g0; split <;> decide) y

/-- What Span goes through. -/
def spl (g : Nat → Int) (s n : Nat) : Nat → Nat → Int → Int → Int → Int × Int × Int
  | 0, _, p, q, e => (p, q, e)
  | m + 1, j, p, q, e => if j * s ≤ n then (if g (n - j * s) = 0 then spl g s n m (j + 1) p q e else if e = 0 then spl g s n m (j + 1) p j 0 else spl g s n m (j + 1) j j 0) else (p, q, e)
theorem f42_p4_eq {F n : Nat} (hn : n ≤ 1000) {a b : List Int} {g : Nat → Int} {i s c : Nat} (hs : 1 ≤ s ∧ s ≤ 30) (hc : c ≤ 40) (ha : a[i]? = some (s : Int)) :
    ∀ (k j : Nat) (p q e : Int), j ≤ c + 1 → c + 1 < k + j → f42_p4 F n i (tab 1001 g) c a b k p q e j = some (spl g s n (c + 1 - j) j p q e) := by
  intro k
  induction k with
  | zero => intro j p q e _ h; omega
  | succ k ih =>
    intro j p q e h1 h2
    unfold f42_p4
    rw [w64_succ (by omega)]
    by_cases hj : j ≤ c
    · have hcs := cs_cast (c := j) hs (by omega)
      rw [if_pos (by simp; omega), at_of ha, Option.bind_some, hcs.1, show c + 1 - j = (c + 1 - (j + 1)) + 1 by omega, spl]
      by_cases hx : j * s ≤ n
      · rw [show w64 ((n : Int) - ((j * s : Nat) : Int)) = ((n - j * s : Nat) : Int) by rw [w64_in (by omega)]; omega]
        rw [if_neg (by simp only [decide_eq_true_eq]; omega), if_pos hx, tab_at _ (by omega), Option.bind_some, w64_succ (by omega)]
        unfold f42_p10
        generalize g (n - j * s) = z at *
        by_cases h0 : z = 0
        · subst h0
          simp only [beq_self_eq_true, if_true]
          exact ih (j + 1) _ _ _ (by omega) (by omega)
        · have d1 : (z == 0) = false := by simpa using h0
          simp only [d1, if_neg h0, Bool.false_eq_true, if_false]
          by_cases he : e = 0
          · subst he
            simp only [bne_self_eq_false, Bool.false_eq_true, if_false, if_true, Option.bind_some]
            exact ih (j + 1) _ _ _ (by omega) (by omega)
          · have d2 : (e != 0) = true := by simpa using he
            simp only [d2, if_neg he, if_true, Option.bind_some]
            exact ih (j + 1) _ _ _ (by omega) (by omega)
      · rw [show w64 ((n : Int) - ((j * s : Nat) : Int)) = (n : Int) - ((j * s : Nat) : Int) by rw [w64_in (by omega)]]
        rw [if_pos (by simp only [decide_eq_true_eq]; omega), if_neg hx]
    · rw [if_neg (by simp; omega), show c + 1 - j = 0 by omega]
      rfl

/-- What Span answers. -/
def spn (a b : List Int) (n i : Int) : Int × Int × Int :=
  if od a b n = 0 then (if 0 ≤ i ∧ i ≤ (a.length : Int) - 1 then spl (W a (b.set i.toNat 0)) ((a[i.toNat]?.getD 0).toNat) n.toNat ((b[i.toNat]?.getD 0).toNat + 1) 0 0 0 12 else (0, 0, 2)) else (0, 0, od a b n)
theorem f42_eq {F : Nat} (hF : 1100 ≤ F) {a b : List Int} {n i : Int} (hb : b.length ≤ 40) (ha : a.length ≤ 40) : f42 F a b n i = some (spn a b n i) := by
  unfold f42 spn
  rw [f73_eq (by omega) hb, Option.bind_some]
  by_cases h : od a b n = 0
  · obtain ⟨h1, h2, h3⟩ := od_zero h
    have hab := Good.of h1
    obtain ⟨m, rfl⟩ : ∃ m : Nat, n = m := ⟨n.toNat, by omega⟩
    rw [if_pos h]
    simp only [if_pos h1, h, bne_self_eq_false, Bool.false_eq_true, if_false, f67_eq, Option.bind_some, decide_eq_true_eq]
    have ew : w64 ((a.length : Int) - 1) = (a.length : Int) - 1 := w64_in (by omega)
    rw [ew]
    by_cases hi : 0 ≤ i ∧ i ≤ (a.length : Int) - 1
    · obtain ⟨j, rfl⟩ : ∃ j : Nat, i = j := ⟨i.toNat, by omega⟩
      have hl := hab.len
      have hja : j < a.length := by omega
      have hjb : j < b.length := by omega
      rw [if_pos hi, if_pos hi, f47_1m_eq (by omega), Option.bind_some]
      simp only [Int.toNat_natCast, Nat.zero_add, List.drop_zero]
      rw [req_pos (by omega), req_pos hjb, req_pos (by simp)]
      have et : List.take b.length (b.set j 0) = b.set j 0 := List.take_of_length_le (by simp)
      have hg2 := hab.setZero j
      have hsa := hab.sz _ (List.getElem_mem hja)
      have hsb := hab.st _ (List.getElem_mem hjb)
      obtain ⟨s, es⟩ : ∃ s : Nat, a[j] = s := ⟨a[j].toNat, by omega⟩
      obtain ⟨c, ec⟩ : ∃ c : Nat, b[j] = c := ⟨b[j].toNat, by omega⟩
      rw [et, f74_eq hF hg2, Option.bind_some, at_get hjb, Option.bind_some, List.getElem?_eq_getElem hja, List.getElem?_eq_getElem hjb, Option.getD_some, Option.getD_some, es, ec]
      have e := f42_p4_eq (F := F) (n := m) (by omega) (a := a) (b := b) (g := W a (b.set j 0)) (i := j) (s := s) (c := c) (by omega) (by omega) (by rw [List.getElem?_eq_getElem hja, es]) F 0 0 0 12 (by omega) (by omega)
      rw [show f42_p4 F m j (tab 1001 (W a (b.set j 0))) c a b F 0 0 12 0 = _ from e, Option.bind_some]
      rfl
    · rw [if_neg hi, if_neg hi]
  · rw [if_neg h]
    by_cases hs : stk a b = 0 <;> simp [hs, h]

end Go.Gh.Pack
