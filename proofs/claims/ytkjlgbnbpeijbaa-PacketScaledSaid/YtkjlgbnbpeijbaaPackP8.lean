/- The plain law of PacketScaled. -/
import Derived.Test.YtkjlgbnbpeijbaaPackT
import Derived.Test.YtkjlgbnbpeijbaaPackM
import Derived.Test.YtkjlgbnbpeijbaaPackK
namespace Go.Gh.Pack
set_option linter.unusedVariables false
set_option linter.unusedSimpArgs false

def mul (d : Nat) (a : List Int) : List Int := a.map fun x => (d : Int) * x

theorem mul_ckL {d : Nat} (hd : 2 ≤ d ∧ d ≤ 3) : ∀ (a : List Int) (p : Int), (∀ x ∈ a, 1 ≤ x ∧ x ≤ 10) → ckL p a = 0 → ckL (d * p) (mul d a) = 0
  | [], _, _, _ => rfl
  | x :: r, p, ha, h => by
    have hx := ha x (by simp)
    simp only [ckL] at h
    split at h
    · split at h
      · cases h
      · rename_i hp
        have h1 : (d : Int) * p < d * x := Int.mul_lt_mul_of_pos_left (by omega) (by omega)
        have h2 : (d : Int) * x ≤ 3 * 10 := Int.mul_le_mul (by omega) hx.2 (by omega) (by omega)
        have h3 : (2 : Int) * 1 ≤ d * x := Int.mul_le_mul (by omega) hx.1 (by omega) (by omega)
        show (if 1 ≤ (d : Int) * x ∧ (d : Int) * x ≤ 30 then (if (d : Int) * x ≤ d * p then 7 else ckL (d * x) (mul d r)) else 1) = 0
        rw [if_pos (by omega), if_neg (by omega)]
        exact mul_ckL hd r x (fun y hy => ha y (by simp [hy])) h
    · cases h
theorem mul_ck {d : Nat} (hd : 2 ≤ d ∧ d ≤ 3) {a : List Int} (ha : ∀ x ∈ a, 1 ≤ x ∧ x ≤ 10) (h : ck a = 0) : ck (mul d a) = 0 := by
  obtain ⟨c1, c2, c3⟩ := ck_zero h
  have hl : (mul d a).length = a.length := by simp [mul]
  unfold ck
  rw [hl, if_neg (by omega), if_neg (by omega)]
  have := mul_ckL hd a 0 ha c3
  rwa [Int.mul_zero] at this

theorem mv_mul {d s : Nat} (hd : 0 < d) {g g' : Nat → Int} {x : Nat} (h : ∀ y, y ≤ x → g' (d * y) = g y) : ∀ c, mv (d * s) g' c (d * x) = mv s g c x ∧ ma (d * s) g' c (d * x) = ma s g c x
  | 0 => ⟨h x (Nat.le_refl _), rfl⟩
  | c + 1 => by
    obtain ⟨h1, h2⟩ := mv_mul (s := s) hd h c
    have e1 : (c + 1) * (d * s) = d * ((c + 1) * s) := by rw [Nat.mul_left_comm]
    have e2 : d * x - d * ((c + 1) * s) = d * (x - (c + 1) * s) := (Nat.mul_sub ..).symm
    have e3 := h (x - (c + 1) * s) (Nat.sub_le _ _)
    have e4 : (d * ((c + 1) * s) ≤ d * x) = ((c + 1) * s ≤ x) := propext ⟨fun hh => Nat.le_of_mul_le_mul_left hh hd, fun hh => Nat.mul_le_mul_left d hh⟩
    constructor
    · show (if (c + 1) * (d * s) ≤ d * x ∧ g' (d * x - (c + 1) * (d * s)) + ((c + 1 : Nat) : Int) < mv (d * s) g' c (d * x) then _ else _) = if _ then _ else _
      rw [e1, e2, e3, h1]
      simp only [e4]
    · show (if (c + 1) * (d * s) ≤ d * x ∧ g' (d * x - (c + 1) * (d * s)) + ((c + 1 : Nat) : Int) < mv (d * s) g' c (d * x) then _ else _) = if _ then _ else _
      rw [e1, e2, e3, h1, h2]
      simp only [e4]
theorem fw_mul {d : Nat} (hd : 2 ≤ d ∧ d ≤ 3) : ∀ (a b : List Int), (∀ x ∈ a, 1 ≤ x) → ∀ y, fw (mul d a) b (d * y) = fw a b y ∧ fillL (mul d a) b (d * y) = fillL a b y
  | [], b, _, y => by
    have e1 : fw (mul d []) b = fun x => if x = 0 then 0 else 1001 := by cases b <;> rfl
    have e2 : fw [] b = fun x => if x = 0 then 0 else 1001 := by cases b <;> rfl
    have e3 : ∀ m, fillL (mul d []) b m = [] := fun m => by cases b <;> rfl
    have e4 : ∀ m, fillL [] b m = [] := fun m => by cases b <;> rfl
    rw [e1, e2, e3, e4]
    refine ⟨?_, rfl⟩
    by_cases h : y = 0
    · subst h; rfl
    · have : d * y ≠ 0 := Nat.mul_ne_zero (by omega) h
      dsimp only
      rw [if_neg h, if_neg this]
  | _ :: _, [], _, y => by
    refine ⟨?_, rfl⟩
    show (if d * y = 0 then (0 : Int) else 1001) = if y = 0 then 0 else 1001
    by_cases h : y = 0
    · subst h; rfl
    · have : d * y ≠ 0 := Nat.mul_ne_zero (by omega) h
      rw [if_neg h, if_neg this]
  | s :: a, c :: b, h, y => by
    have hs := h s (by simp)
    have ih := fw_mul hd a b fun x hx => h x (by simp [hx])
    obtain ⟨n, rfl⟩ : ∃ n : Nat, s = n := ⟨s.toNat, by omega⟩
    have es : ((d : Int) * (n : Int)).toNat = d * n := by rw [← Int.natCast_mul, Int.toNat_natCast]
    have e := mv_mul (d := d) (s := n) (by omega) (g := fw a b) (g' := fw (mul d a) b) (x := y) (fun z _ => (ih z).1) c.toNat
    constructor
    · show val ((d : Int) * (n : Int)).toNat c.toNat (fw (mul d a) b) (d * y) = val (Int.toNat n) c.toNat (fw a b) y
      unfold val
      rw [es, Int.toNat_natCast, e.1]
    · show ((ma ((d : Int) * (n : Int)).toNat (fw (mul d a) b) c.toNat (d * y) : Nat) : Int) :: fillL (mul d a) b (d * y - ma ((d : Int) * (n : Int)).toNat (fw (mul d a) b) c.toNat (d * y) * ((d : Int) * (n : Int)).toNat) = ((ma (Int.toNat n) (fw a b) c.toNat y : Nat) : Int) :: fillL a b (y - ma (Int.toNat n) (fw a b) c.toNat y * Int.toNat n)
      rw [es, Int.toNat_natCast, e.2]
      rw [show d * y - ma n (fw a b) c.toNat y * (d * n) = d * (y - ma n (fw a b) c.toNat y * n) by rw [Nat.mul_sub, Nat.mul_left_comm], (ih _).2]
theorem full_mul {d : Nat} (hd : 2 ≤ d ∧ d ≤ 3) (n : Nat) : ∀ a : List Int, (∀ x ∈ a, 1 ≤ x) → full (d * n) (mul d a) = full n a
  | [], _ => rfl
  | s :: a, h => by
    have hs := h s (by simp)
    obtain ⟨k, rfl⟩ : ∃ n : Nat, s = n := ⟨s.toNat, by omega⟩
    have ih := full_mul hd n a fun x hx => h x (by simp [hx])
    show ((d * n / ((d : Int) * (k : Int)).toNat : Nat) : Int) :: full (d * n) (mul d a) = ((n / (Int.toNat k) : Nat) : Int) :: full n a
    rw [ih, ← Int.natCast_mul, Int.toNat_natCast, Int.toNat_natCast, Nat.mul_div_mul_left _ _ (by omega)]

theorem f105_has {F : Nat} {l : List Int} {x : Int} (hl : l.length ≤ 100) : ∀ (k i : Nat), i ≤ l.length → l.length < k + i → x ∈ l.drop i → ∃ j : Int, f105_p1 F l x k i = some (.c0 j) ∧ 0 ≤ j := by
  intro k
  induction k with
  | zero => intro i _ h; omega
  | succ k ih =>
    intro i h1 h2 hm
    unfold f105_p1
    by_cases hi : i < l.length
    · rw [drop_cons hi] at hm
      rw [if_pos (by simp; omega), at_get hi, Option.bind_some]
      by_cases h : x = l[i]
      · rw [if_pos (by simp [h])]
        exact ⟨_, rfl, by omega⟩
      · rw [if_neg (by simpa using h), w64_succ (by omega)]
        refine ih (i + 1) (by omega) (by omega) ?_
        rcases List.mem_cons.1 hm with hm | hm
        · exact absurd hm h
        · exact hm
    · rw [List.drop_eq_nil_of_le (by omega)] at hm
      cases hm
theorem f91_has {l : List Int} {x : Int} (hl : l.length ≤ 100) (h : x ∈ l) : f91 1100 l x = some true := by
  obtain ⟨j, e, hj⟩ := f105_has (F := 1100) (x := x) hl 1100 0 (by omega) (by omega) (by rw [List.drop_zero]; exact h)
  unfold f91 f105
  rw [show f105_p1 1100 l x 1100 0 = _ from e, Option.bind_some, Option.bind_some, decide_eq_true (show j ≥ 0 from hj)]

theorem f8_p1_eq {F : Nat} {d : Nat} (hd : 2 ≤ d ∧ d ≤ 3) {a : List Int} {x4 x5 : Int} (e5 : w64 (2 + Int.tmod (w64 x5) 2) = d) (ha : ∀ x ∈ a, 1 ≤ x ∧ x ≤ 10) (h5 : a.length ≤ 5) : ∀ (k i : Nat) (acc : List Int), i ≤ a.length → a.length < k + i → acc.length ≤ i →
    f8_p1 F x4 a x5 k i acc = some (acc ++ mul d (a.drop i)) := by
  intro k
  induction k with
  | zero => intro i acc _ h; omega
  | succ k ih =>
    intro i acc h1 h2 h3
    unfold f8_p1
    by_cases hi : i < a.length
    · have hx := ha _ (List.getElem_mem hi)
      have h4 : (d : Int) * a[i] ≤ 3 * 10 := Int.mul_le_mul (by omega) hx.2 (by omega) (by omega)
      have h6 : 0 ≤ (d : Int) * a[i] := Int.mul_nonneg (by omega) (by omega)
      rw [if_pos (by simp; omega), at_get hi, Option.bind_some, req_pos (by simp; omega), e5, w64_in (n := (d : Int) * a[i]) (by omega), w64_succ (by omega), ih (i + 1) _ (by omega) (by omega) (by simp; omega), drop_cons hi]
      simp only [mul, List.map_cons, List.append_assoc, List.cons_append, List.nil_append]
    · rw [if_neg (by simp; omega), List.drop_eq_nil_of_le (by omega)]
      simp [mul]

theorem f8_p8_eq {F : Nat} {d n : Nat} (hd : 2 ≤ d ∧ d ≤ 3) (hn : n ≤ 10) {x5 : Int} {x13 L L' : List Int} (e5 : w64 (2 + Int.tmod (w64 x5) 2) = d) (hS : Sim d n L L') (hR : Rg n 200000 L) : ∀ (k j : Nat), j ≤ d * n → d * n < k + j → f8_p8 F x5 x13 L L' k j = some .c1 := by
  have hdn : d * n ≤ 3 * 10 := Nat.mul_le_mul hd.2 hn
  intro k
  induction k with
  | zero => intro j _ h; omega
  | succ k ih =>
    intro j h1 h2
    unfold f8_p8
    rw [hS.len', e5]
    by_cases hj : j < d * n
    · have et : Int.tmod (j : Int) (d : Int) = ((j % d : Nat) : Int) := by rw [Int.tmod_eq_emod_of_nonneg (by omega), Int.natCast_emod]
      have ed : w64 (Int.tdiv (j : Int) (d : Int)) = ((j / d : Nat) : Int) := by
        rw [Int.tdiv_eq_ediv_of_nonneg (by omega), ← Int.natCast_ediv, w64_nat (by have := Nat.div_le_self j d; omega)]
      rw [if_pos (decide_eq_true (by omega)), et, ed, w64_succ (by omega), ih (j + 1) (by omega) (by omega)]
      by_cases hm : j % d = 0
      · have hjd : d * (j / d) = j := by have := Nat.div_add_mod j d; omega
        have hq : j / d < n := by
          have := Nat.div_lt_of_lt_mul (show j < d * n from hj)
          exact this
        obtain ⟨v, e, hv⟩ := hR.get hq
        have e' := hS.at_ _ v e
        rw [hjd] at e'
        rw [at_of e', Option.bind_some, req_pos (by omega), hm, if_neg (by decide), if_pos (by decide), at_of e, Option.bind_some]
        by_cases hv0 : v < 0
        · rw [if_pos (by simpa using hv0), sc_neg hv0, if_neg (by decide), if_neg (by simp; omega)]
        · have hb : (d : Int) * v ≤ 3 * 200000 := Int.mul_le_mul (by omega) hv.2 (by omega) (by omega)
          have hb0 : 0 ≤ (d : Int) * v := Int.mul_nonneg (by omega) (by omega)
          rw [if_neg (by simpa using hv0), if_pos (by simp; omega), sc_pos hv0, w64_in (n := (d : Int) * v) (by omega), if_neg (by simp)]
      · rw [at_of (hS.off j hj hm), Option.bind_some, req_pos (by omega), if_pos (decide_eq_true (by omega)), if_neg (by decide), if_neg (by simp; omega)]
    · rw [if_neg (by rw [decide_eq_true_eq]; omega)]
theorem f8_p8_1_eq {F : Nat} {d n : Nat} (hd : 2 ≤ d ∧ d ≤ 3) (hn : n ≤ 10) {x5 : Int} {x13 L L' : List Int} (e5 : w64 (2 + Int.tmod (w64 x5) 2) = d) (hS : Sim d n L L') (hR : Rg n 200000 L) : ∀ (k j : Nat), j ≤ d * n → d * n < k + j → f8_p8_1 F x5 x13 L L' k j = some .c1 := by
  have hdn : d * n ≤ 3 * 10 := Nat.mul_le_mul hd.2 hn
  intro k
  induction k with
  | zero => intro j _ h; omega
  | succ k ih =>
    intro j h1 h2
    unfold f8_p8_1
    rw [hS.len', e5]
    by_cases hj : j < d * n
    · have et : Int.tmod (j : Int) (d : Int) = ((j % d : Nat) : Int) := by rw [Int.tmod_eq_emod_of_nonneg (by omega), Int.natCast_emod]
      have ed : w64 (Int.tdiv (j : Int) (d : Int)) = ((j / d : Nat) : Int) := by
        rw [Int.tdiv_eq_ediv_of_nonneg (by omega), ← Int.natCast_ediv, w64_nat (by have := Nat.div_le_self j d; omega)]
      rw [if_pos (decide_eq_true (by omega)), et, ed, w64_succ (by omega), ih (j + 1) (by omega) (by omega)]
      by_cases hm : j % d = 0
      · have hjd : d * (j / d) = j := by have := Nat.div_add_mod j d; omega
        have hq : j / d < n := by
          have := Nat.div_lt_of_lt_mul (show j < d * n from hj)
          exact this
        obtain ⟨v, e, hv⟩ := hR.get hq
        have e' := hS.at_ _ v e
        rw [hjd] at e'
        rw [at_of e', Option.bind_some, req_pos (by omega), hm, if_neg (by decide), if_pos (by decide), at_of e, Option.bind_some]
        by_cases hv0 : v < 0
        · rw [if_pos (by simpa using hv0), sc_neg hv0, if_neg (by decide), if_neg (by simp; omega)]
        · have hb : (d : Int) * v ≤ 3 * 200000 := Int.mul_le_mul (by omega) hv.2 (by omega) (by omega)
          have hb0 : 0 ≤ (d : Int) * v := Int.mul_nonneg (by omega) (by omega)
          rw [if_neg (by simpa using hv0), if_pos (by simp; omega), sc_pos hv0, w64_in (n := (d : Int) * v) (by omega), if_neg (by simp)]
      · rw [at_of (hS.off j hj hm), Option.bind_some, req_pos (by omega), if_pos (decide_eq_true (by omega)), if_neg (by decide), if_neg (by simp; omega)]
    · rw [if_neg (by rw [decide_eq_true_eq]; omega)]

theorem f8_plain (z t : List Int) (c m fac : Int) (hz : z.length = 4) (hzr : ∀ x ∈ z, 0 ≤ x ∧ x ≤ 255) (ht : t.length = 4) (htr : ∀ x ∈ t, 0 ≤ x ∧ x ≤ 255) (hc : 0 ≤ c ∧ c ≤ 255) (hm : 0 ≤ m ∧ m ≤ 255) (hf : 0 ≤ fac ∧ fac ≤ 255) : f8 1100 z t c m fac = some true := by
  obtain ⟨a, b, e1, hst, h4, hsz, hsb⟩ := made_eq (sz := 10) (st := 1) hz hzr ht htr (by omega) (by omega) hc
  have hck := (stk_zero hst).1
  obtain ⟨c1, c2, _⟩ := ck_zero hck
  obtain ⟨n, rfl⟩ : ∃ n : Nat, m = n := ⟨m.toNat, by omega⟩
  have q0 := Int.emod_nonneg fac (b := 2) (by omega)
  have q1 := Int.emod_lt_of_pos fac (b := 2) (by omega)
  obtain ⟨d, ed⟩ : ∃ d : Nat, 2 + fac % 2 = d := ⟨(2 + fac % 2).toNat, by omega⟩
  have hd : 2 ≤ d ∧ d ≤ 3 := by omega
  have e5 : w64 (2 + Int.tmod (w64 fac) 2) = d := by rw [w64_in (n := fac) (by omega), Int.tmod_eq_emod_of_nonneg (by omega), w64_in (by omega), ed]
  have em : w64 (n : Int) = n := w64_nat (by omega)
  have hdn : d * n ≤ 3 * 255 := Nat.mul_le_mul hd.2 (by omega)
  have edn : w64 ((d : Int) * n) = ((d * n : Nat) : Int) := by rw [← Int.natCast_mul, w64_nat (by omega)]
  have hck' := mul_ck hd hsz hck
  have hpos : ∀ x ∈ a, (1 : Int) ≤ x := fun x hx => (hsz x hx).1
  have hml : (mul d a).length = a.length := by simp [mul]
  -- the first size
  have h0 := hsz _ (List.getElem_mem c1)
  obtain ⟨s0, es0⟩ : ∃ s : Nat, a[0] = s := ⟨a[0].toNat, by omega⟩
  have eat : at? a 0 = some (s0 : Int) := by rw [← es0]; exact at_get c1
  have eat' : at? (mul d a) 0 = some ((d * s0 : Nat) : Int) := at_of (i := 0) (by
    unfold mul
    rw [List.getElem?_map, List.getElem?_eq_getElem c1, es0, Int.natCast_mul]; rfl)
  obtain ⟨L, L', r1, r2, hS, hR⟩ := f68_sim (b := s0) hd (by omega) hsz c2
  have r2 : f68 1100 (mul d a) ((d * s0 : Nat) : Int) = some L' := r2
  have hds : d * s0 ≤ 3 * 10 := Nat.mul_le_mul hd.2 (by omega)
  have hds2 : 2 * 1 ≤ d * s0 := Nat.mul_le_mul hd.1 (by omega)
  -- Make
  have m1 := f19_eq hck (n := n) (by omega)
  have m2 : f19 1100 (mul d a) ((d * n : Nat) : Int) = some (fillR a (full n a) n) := by
    rw [f19_eq hck' (n := d * n) (by omega), full_mul hd n a hpos]
    unfold fillR
    rw [(fw_mul hd a (full n a) hpos n).1, (fw_mul hd a (full n a) hpos n).2]
  have hfl : ∀ (a b : List Int) (m : Nat), (fillL a b m).length ≤ a.length := by
    intro a
    induction a with
    | nil => intro b m; simp [fillL]
    | cons s a ih =>
      intro b m
      cases b with
      | nil => simp [fillL]
      | cons c b =>
        have := ih b (m - ma s.toNat (fw a b) c.toNat m * s.toNat)
        simp only [fillL, List.length_cons]; omega
  obtain ⟨l, e, el, hll, he⟩ : ∃ l e, fillR a (full n a) n = (l, e) ∧ l.length ≤ 5 ∧ (e = 0 ∨ e = 12) := by
    unfold fillR
    split
    · exact ⟨_, _, rfl, by simp, .inr rfl⟩
    · exact ⟨_, _, rfl, by have := hfl a (full n a) n; omega, .inl rfl⟩
  rw [el] at m1 m2
  -- Can
  have hodd : (d * n + 1) % (d * s0) < d * s0 ∧ (d * n + 1) % (d * s0) % d ≠ 0 := by
    refine ⟨Nat.mod_lt _ (by omega), ?_⟩
    rw [Nat.mod_mul_right_mod, Nat.mul_add_mod, Nat.mod_eq_of_lt (by omega)]
    omega
  have can : f17 1100 (mul d a) ((d * n + 1 : Nat) : Int) = some (false, 0) := by
    have ei : Int.tmod ((d * n + 1 : Nat) : Int) ((d * s0 : Nat) : Int) = (((d * n + 1) % (d * s0) : Nat) : Int) := by rw [Int.tmod_eq_emod_of_nonneg (by omega), Int.natCast_emod]
    unfold f17 f60
    rw [f26_eq (by omega), Option.bind_some, hck', if_neg (by decide), f67_eq, Option.bind_some, if_pos (decide_eq_true (by omega)), eat', Option.bind_some, r2, Option.bind_some, Option.bind_some]
    dsimp only
    rw [if_pos (by decide)]
    unfold f61
    rw [hS.len', req_pos (by omega), ei, at_of (hS.off _ hodd.1 hodd.2), Option.bind_some, if_neg (by decide), Option.bind_some]
  -- Remainders
  have rem1 : f24 1100 a 0 = some (L, 0) := by
    unfold f24
    rw [f26_eq (by omega), Option.bind_some, hck, if_neg (by decide), f67_eq, Option.bind_some, if_pos (decide_eq_true (by rw [w64_in (by omega)]; omega)), eat, Option.bind_some, r1, Option.bind_some]
  have rem2 : f24 1100 (mul d a) 0 = some (L', 0) := by
    unfold f24
    rw [f26_eq (by omega), Option.bind_some, hck', if_neg (by decide), f67_eq, Option.bind_some, if_pos (decide_eq_true (by rw [w64_in (by omega)]; omega)), eat', Option.bind_some, r2, Option.bind_some]
  -- Gaps
  have hin : (-1 : Int) ∈ L' := List.mem_of_getElem? (hS.off 1 (by omega) (by rw [Nat.mod_eq_of_lt (by omega)]; decide))
  have gap : f28 1100 (mul d a) = some ([], 15) := by
    unfold f28 f70
    rw [f26_eq (by omega), Option.bind_some, hck', if_neg (by decide), eat', Option.bind_some, r2, Option.bind_some, f91_has (by rw [hS.len']; omega) hin, Option.bind_some, if_pos rfl, Option.bind_some]
  have lp1 := f8_p1_eq (F := 1100) (x4 := (n : Int)) hd e5 hsz c2 1100 0 [] (by omega) (by omega) (by simp)
  rw [List.drop_zero, List.nil_append] at lp1
  have edn1 : w64 (((d * n : Nat) : Int) + 1) = ((d * n + 1 : Nat) : Int) := w64_succ (by omega)
  have t1 := f23_eq (F := 1100) (a := l) (b := l) (by omega) (by omega)
  have p8 := f8_p8_eq (F := 1100) (x13 := mul d a) hd (by omega) e5 hS hR 1100 0 (by omega) (by omega)
  have p81 := f8_p8_1_eq (F := 1100) (x13 := mul d a) hd (by omega) e5 hS hR 1100 0 (by omega) (by omega)
  have p8 : f8_p8 1100 fac (mul d a) L L' 1100 0 = some .c1 := p8
  have p81 : f8_p8_1 1100 fac (mul d a) L L' 1100 0 = some .c1 := p81
  have ew := works
  have ed2 : List.drop 0 (List.take (0 + (mul d a).length) (mul d a)) = mul d a := take0 _
  unfold f8
  rw [e1, Option.bind_some]
  dsimp only
  rw [show f8_p1 1100 (n : Int) a fac 1100 0 [] = _ from lp1, Option.bind_some, em, m1, Option.bind_some]
  dsimp only
  rw [ed2, e5, edn, m2, Option.bind_some]
  dsimp only
  rw [if_neg (by simp), t1, Option.bind_some, decide_eq_true rfl, if_pos rfl, edn1, can, rem1, rem2, gap]
  simp only [Option.bind_some, bne_self_eq_false, Bool.false_eq_true, if_false, eat, eat', hS.len, hS.len', p8, p81, beq_self_eq_true, if_true, ew]
  rcases he with rfl | rfl
  · rfl
  · rfl

end Go.Gh.Pack
