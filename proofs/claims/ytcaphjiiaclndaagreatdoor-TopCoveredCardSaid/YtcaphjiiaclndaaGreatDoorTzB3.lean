/- What is needed of the plain texts. -/
import Derived.Test.YtcaphjiiaclndaaGreatDoorTz3N0
namespace Go.Gh.Tz
set_option linter.unusedVariables false
set_option linter.unusedSimpArgs false

section
theorem w64_in {n : Int} (h : -9223372036854775808 ≤ n ∧ n < 9223372036854775808) : w64 n = n := by
  unfold w64; simp [IntKind.wrap, IntKind.bits, IntKind.signed]; omega
theorem w64_nat {n : Nat} (h : n < 1000000000) : w64 (n : Int) = n := w64_in (by omega)
theorem w64_succ {n : Nat} (h : n < 1000000000) : w64 ((n : Int) + 1) = ((n + 1 : Nat) : Int) := by rw [w64_in (by omega)]; omega
theorem wm {i : Nat} (h : 0 < i) (h2 : i < 1000000000) : w64 ((i : Int) - 1) = ((i - 1 : Nat) : Int) := by rw [w64_in (by omega)]; omega
theorem wsub {a b : Nat} (h : a ≤ b) (h2 : b < 1000000000) : w64 ((b : Int) - (a : Int)) = ((b - a : Nat) : Int) := by rw [w64_in (by omega)]; omega
theorem wadd {a b : Nat} (h : a < 1000000000) (h2 : b < 1000000000) : w64 ((a : Int) + (b : Int)) = ((a + b : Nat) : Int) := by rw [w64_in (by omega)]; omega
theorem at_of {α : Type} {l : List α} {i : Nat} {x : α} (h : l[i]? = some x) : at? l ((i : Nat) : Int) = some x := by
  unfold at?; simp [h]
theorem at_get {α : Type} {l : List α} {i : Nat} (h : i < l.length) : at? l ((i : Nat) : Int) = some l[i] := at_of (List.getElem?_eq_getElem h)
theorem req_pos {α : Type} {p : Prop} [Decidable p] {x : Option α} (h : p) : req p x = x := by unfold req; rw [if_pos h]
theorem rq {α : Type} {i n : Nat} (h : i < n) {x : Option α} : req ((0 : Int) ≤ (i : Int) ∧ ((i : Int) : Int) < ((n : Nat) : Int)) x = x := req_pos (by omega)
theorem take0 {α : Type} (l : List α) : List.drop 0 (List.take (0 + l.length) l) = l := by simp
theorem f94_some {F : Nat} {x y : Int} : ∃ c, f94 F x y = some c := by
  unfold f94 f105
  rw [Option.bind_some, Option.bind_some]
  simp only [bne_self_eq_false, Bool.false_eq_true, if_false]
  split
  · exact ⟨_, rfl⟩
  · split <;> exact ⟨_, rfl⟩
theorem cmp {F : Nat} {x y : List Int} (hF : 200 ≤ F) (hx : x.length ≤ 100) : ∃ c, f60 F x y = some c := by
  have key : ∀ (k i : Nat), i ≤ x.length → x.length < k + i → ∃ z, f60_p1 F x y k i = some z := by
    intro k
    induction k with
    | zero => intro i _ h; omega
    | succ k ih =>
      intro i h1 h2
      unfold f60_p1
      by_cases hi : i < x.length
      · rw [if_pos (by rw [decide_eq_true_eq]; omega), at_get hi, Option.bind_some]
        by_cases hj : i < y.length
        · obtain ⟨c, e⟩ := f94_some (F := F) (x := x[i]) (y := y[i])
          rw [if_neg (by rw [decide_eq_true_eq]; omega), at_get hj, Option.bind_some, e, Option.bind_some, w64_succ (by omega)]
          split
          · exact ⟨_, rfl⟩
          · exact ih (i + 1) (by omega) (by omega)
        · rw [if_pos (by rw [decide_eq_true_eq]; omega)]
          exact ⟨_, rfl⟩
      · rw [if_neg (by rw [decide_eq_true_eq]; omega)]
        exact ⟨_, rfl⟩
  obtain ⟨z, e⟩ := key F 0 (by omega) (by omega)
  unfold f60
  rw [show f60_p1 F x y F 0 = some z from e, Option.bind_some]
  cases z with
  | c0 v => exact ⟨v, rfl⟩
  | c1 =>
    dsimp only
    split <;> exact ⟨_, rfl⟩
structure Ok (n : Nat) (l : List (List Int)) : Prop where
  len : l.length = n
  small : ∀ x ∈ l, x.length ≤ 100
theorem Ok.perm {n : Nat} {l r : List (List Int)} (h : Ok n l) (p : r.Perm l) : Ok n r := ⟨by rw [p.length_eq]; exact h.len, fun x hx => h.small x (p.mem_iff.1 hx)⟩
theorem Ok.get {n : Nat} {l : List (List Int)} (h : Ok n l) {i : Nat} (hi : i < n) : ∃ v, l[0 + Int.toNat (i : Int)]? = some v ∧ v.length ≤ 100 := by
  have hl := h.len
  rw [Nat.zero_add, Int.toNat_natCast]
  exact ⟨_, List.getElem?_eq_getElem (by omega), h.small _ (List.getElem_mem _)⟩
theorem sw_perm {l : List (List Int)} {i j : Nat} {v w : List Int} (hi : l[0 + Int.toNat (i : Int)]? = some v) (hj : l[0 + Int.toNat (j : Int)]? = some w) :
    (List.set (List.set l (0 + Int.toNat (i : Int)) w) (0 + Int.toNat (j : Int)) v).Perm l := by
  rw [Nat.zero_add, Int.toNat_natCast] at hi hj ⊢
  obtain ⟨h1, e1⟩ := List.getElem?_eq_some_iff.1 hi
  obtain ⟨h2, e2⟩ := List.getElem?_eq_some_iff.1 hj
  rw [← e1, ← e2, Nat.zero_add]
  exact List.set_set_perm h1 h2
theorem rs {α : Type} {n : Nat} {l : List (List Int)} (h : Ok n l) {i : Nat} (hi : i < n) {x : Option α} : req ((0 + Int.toNat (i : Int)) < List.length l) x = x := by
  have := h.len; exact req_pos (by omega)
theorem rt {α : Type} {n : Nat} {l : List (List Int)} (h : Ok n l) {i j : Nat} {v : List Int} (hi : i < n) {x : Option α} : req ((0 + Int.toNat (i : Int)) < List.length (List.set l j v)) x = x := by
  have := h.len; exact req_pos (by rw [List.length_set]; omega)
section
variable {F n a b : Nat} (hF : 200 ≤ F) (hn : n ≤ 16) (hab : a ≤ b) (hb : b ≤ n)
include hF hn
theorem ins_in {i0 : Int} {x4 : Int} : ∀ (k i : Nat) (l : List (List Int)), i < n → i < k → Ok n l → ∃ r, f113_p5_1 F 0 n a x4 i0 k i l = some r ∧ r.Perm l := by
  intro k
  induction k with
  | zero => intro i l _ h; omega
  | succ k ih =>
    intro i l h1 h2 h
    unfold f113_p5_1
    by_cases hi : a < i
    · obtain ⟨v, e1, v1⟩ := h.get h1
      obtain ⟨w, e2, w1⟩ := h.get (i := i - 1) (by omega)
      obtain ⟨c, e3⟩ := cmp (y := w) hF v1
      rw [if_pos (by rw [decide_eq_true_eq]; omega), rq h1, e1, Option.bind_some, wm (by omega) (by omega), rq (by omega), e2, Option.bind_some, e3, Option.bind_some]
      split
      · rw [rs h h1, rt h (by omega)]
        have p := sw_perm e1 e2
        obtain ⟨r, e4, q⟩ := ih (i - 1) _ (by omega) (by omega) (h.perm p)
        exact ⟨r, e4, q.trans p⟩
      · exact ⟨l, rfl, .refl _⟩
    · rw [if_neg (by rw [decide_eq_true_eq]; omega)]
      exact ⟨l, rfl, .refl _⟩
include hab hb
theorem ins_ok {l : List (List Int)} (h : Ok n l) : ∃ r, f113 F 0 n a b l = some r ∧ r.Perm l := by
  have key : ∀ (k i : Nat) (l : List (List Int)), i ≤ b + 1 → b + 1 < k + i → Ok n l → ∃ r, f113_p1 F 0 n a b k i l = some r ∧ r.Perm l := by
    intro k
    induction k with
    | zero => intro i l _ h; omega
    | succ k ih =>
      intro i l h1 h2 h
      unfold f113_p1
      by_cases hi : i < b
      · obtain ⟨r, e, p⟩ := ins_in (a := a) (i0 := (i : Int)) (x4 := (b : Int)) hF hn F i l (by omega) (by omega) h
        obtain ⟨r', e', p'⟩ := ih (i + 1) r (by omega) (by omega) (h.perm p)
        rw [if_pos (by rw [decide_eq_true_eq]; omega), e, Option.bind_some, w64_succ (by omega)]
        exact ⟨r', e', p'.trans p⟩
      · rw [if_neg (by rw [decide_eq_true_eq]; omega)]
        exact ⟨l, rfl, .refl _⟩
  obtain ⟨r, e, p⟩ := key F (a + 1) l (by omega) (by omega) h
  unfold f113
  rw [w64_succ (by omega), e]
  exact ⟨r, rfl, p⟩
omit hab hb
theorem up119 {j : Nat} {l : List (List Int)} (h : Ok n l) (ha : a < n) (hj : j < n) : ∀ (k i : Nat), j + 2 ≤ k + i → 0 < k → ∃ i' : Nat, f119_p4_1 F 0 n a j l k i = some (i' : Int) ∧ i ≤ i' ∧ (i' ≤ j + 1 ∨ i' = i) := by
  intro k
  induction k with
  | zero => intro i _ h; omega
  | succ k ih =>
    intro i h1 _
    unfold f119_p4_1
    by_cases hi : i ≤ j
    · obtain ⟨v, e1, v1⟩ := h.get ha
      obtain ⟨w, e2, w1⟩ := h.get (i := i) (by omega)
      obtain ⟨c, e3⟩ := cmp (y := w) hF v1
      rw [if_pos (by rw [decide_eq_true_eq]; omega), rq ha, e1, Option.bind_some, rq (by omega), e2, Option.bind_some, e3, Option.bind_some, w64_succ (by omega)]
      split
      · exact ⟨i, rfl, by omega, by omega⟩
      · obtain ⟨i', e, q1, q2⟩ := ih (i + 1) (by omega) (by omega)
        exact ⟨i', e, by omega, by omega⟩
    · rw [if_neg (by rw [decide_eq_true_eq]; omega)]
      exact ⟨i, rfl, by omega, by omega⟩
theorem dn119 {i : Nat} {l : List (List Int)} (h : Ok n l) (ha : a < n) (hi0 : 0 < i) : ∀ (k j : Nat), j < k → j < n → ∃ j' : Nat, f119_p8_1 F 0 n a i l k j = some (j' : Int) ∧ j' ≤ j ∧ (i ≤ j' + 1 ∨ j' = j) := by
  intro k
  induction k with
  | zero => intro j h; omega
  | succ k ih =>
    intro j h1 h2
    unfold f119_p8_1
    by_cases hi : i ≤ j
    · obtain ⟨v, e1, v1⟩ := h.get ha
      obtain ⟨w, e2, w1⟩ := h.get (i := j) (by omega)
      obtain ⟨c, e3⟩ := cmp (y := w) hF v1
      rw [if_pos (by rw [decide_eq_true_eq]; omega), rq ha, e1, Option.bind_some, rq (by omega), e2, Option.bind_some, e3, Option.bind_some, wm (by omega) (by omega)]
      split
      · obtain ⟨j', e, q1, q2⟩ := ih (j - 1) (by omega) (by omega)
        exact ⟨j', e, by omega, by omega⟩
      · exact ⟨j, rfl, by omega, by omega⟩
    · rw [if_neg (by rw [decide_eq_true_eq]; omega)]
      exact ⟨j, rfl, by omega, by omega⟩
theorem eq_loop (hb : b ≤ n) : ∀ (k i j : Nat) (l : List (List Int)), j < k → a < i → a ≤ j → j < b → i ≤ b → Ok n l → ∃ (m : Nat) (r : List (List Int)), f119_p1 F 0 n a k i j l = some ((m : Int), r) ∧ a < m ∧ m ≤ b ∧ r.Perm l := by
  intro k
  induction k with
  | zero => intro i j l h; omega
  | succ k ih =>
    intro i j l h1 h2 h3 h4 h5 h
    obtain ⟨i', e1, q1, q2⟩ := up119 hF hn (a := a) (j := j) h (by omega) (by omega) F i (by omega) (by omega)
    obtain ⟨j', e2, q3, q4⟩ := dn119 hF hn (a := a) (i := i') h (by omega) (by omega) F j (by omega) (by omega)
    unfold f119_p1
    rw [e1, Option.bind_some, e2, Option.bind_some]
    by_cases hij : i' > j'
    · rw [if_pos (by rw [decide_eq_true_eq]; omega)]
      exact ⟨i', l, rfl, by omega, by omega, .refl _⟩
    · obtain ⟨v, e3, v1⟩ := h.get (i := j') (by omega)
      obtain ⟨w, e4, w1⟩ := h.get (i := i') (by omega)
      rw [if_neg (by rw [decide_eq_true_eq]; omega), rq (by omega), e3, Option.bind_some, rq (by omega), e4, Option.bind_some, rs h (by omega), rt h (by omega), w64_succ (by omega), wm (by omega) (by omega)]
      have p := sw_perm e4 e3
      obtain ⟨m, r, e, m1, m2, q⟩ := ih (i' + 1) (j' - 1) _ (by omega) (by omega) (by omega) (by omega) (by omega) (h.perm p)
      exact ⟨m, r, e, m1, m2, q.trans p⟩
theorem eq_ok {p : Nat} (hab : a < b) (hb : b ≤ n) (hp : a ≤ p ∧ p < b) {l : List (List Int)} (h : Ok n l) : ∃ (m : Nat) (r : List (List Int)), f119 F 0 n a b p l = some ((m : Int), r) ∧ a < m ∧ m ≤ b ∧ r.Perm l := by
  obtain ⟨v, e1, v1⟩ := h.get (i := p) (by omega)
  obtain ⟨w, e2, w1⟩ := h.get (i := a) (by omega)
  have q := sw_perm e2 e1
  obtain ⟨m, r, e, m1, m2, q2⟩ := eq_loop hF hn (a := a) hb F (a + 1) (b - 1) _ (by omega) (by omega) (by omega) (by omega) (by omega) (h.perm q)
  unfold f119
  rw [rq (by omega), e1, Option.bind_some, rq (by omega), e2, Option.bind_some, rs h (by omega), rt h (by omega), w64_succ (by omega), wm (by omega) (by omega), e]
  exact ⟨m, r, rfl, m1, m2, q2.trans q⟩
end
end
section
theorem u64_nat {m : Nat} (h : m < 1000000000) : IntKind.wrap .u64 ((m : Nat) : Int) = (m : Int) := by
  have e : IntKind.wrap .u64 ((m : Nat) : Int) = (m : Int) % 18446744073709551616 := rfl
  rw [e]; omega
theorem and_u {x : Int} {m : Nat} (h : m < 1000000000) : ∃ r : Nat, iAnd .u64 x (m : Int) = (r : Int) ∧ r ≤ m := by
  unfold iAnd
  refine ⟨(BitVec.ofInt 64 x &&& BitVec.ofInt 64 (m : Int)).toNat, ?_, ?_⟩
  · have h1 : (BitVec.ofInt 64 x &&& BitVec.ofInt 64 (m : Int)).toNat ≤ m := by
      rw [BitVec.toNat_and, BitVec.ofInt_natCast, BitVec.toNat_ofNat, Nat.mod_eq_of_lt (by omega)]
      exact Nat.and_le_right
    exact u64_nat (Nat.lt_of_le_of_lt h1 h)
  · rw [BitVec.toNat_and, BitVec.ofInt_natCast, BitVec.toNat_ofNat, Nat.mod_eq_of_lt (by omega)]
    exact Nat.and_le_right
def Pow (F : Nat) : Prop := ∀ n : Nat, 0 < n → n ≤ 16 → ∃ m : Nat, f101 F (n : Int) = some (m : Int) ∧ 1 ≤ m ∧ m ≤ 2 * n
def powOk (F : Nat) : Bool := (List.range 16).all fun (n : Nat) => match f101 F ((n + 1 : Nat) : Int) with | some m => decide (1 ≤ m ∧ m ≤ 2 * ((n + 1 : Nat) : Int)) | none => false
theorem pow_of {F : Nat} (h : powOk F = true) : Pow F := fun n h0 hn => by
  have := (List.all_eq_true.1 h) (n - 1) (List.mem_range.2 (by omega))
  rw [show n - 1 + 1 = n by omega] at this
  cases e : f101 F (n : Int) with
  | none => rw [e] at this; cases this
  | some m =>
    rw [e] at this
    have := of_decide_eq_true this
    exact ⟨m.toNat, by rw [Int.toNat_of_nonneg (by omega)], by omega, by omega⟩
def Lim (F : Nat) : Prop := ∀ n : Nat, n ≤ 16 → ∃ m : Nat, f39 F (IntKind.wrap .u64 (n : Int)) = some (m : Int) ∧ n ≤ 12 + m ∧ m ≤ 100
def limOk (F : Nat) : Bool := (List.range 17).all fun (n : Nat) => match f39 F (IntKind.wrap .u64 (n : Int)) with | some m => decide (0 ≤ m ∧ (n : Int) ≤ 12 + m ∧ m ≤ 100) | none => false
theorem lim_of {F : Nat} (h : limOk F = true) : Lim F := fun n hn => by
  have := (List.all_eq_true.1 h) n (List.mem_range.2 (by omega))
  cases e : f39 F (IntKind.wrap .u64 (n : Int)) with
  | none => rw [e] at this; cases this
  | some m =>
    rw [e] at this
    have := of_decide_eq_true this
    exact ⟨m.toNat, by rw [Int.toNat_of_nonneg (by omega)], by omega, by omega⟩
theorem quart {a b c : Nat} (hc : c ≤ 3) (hab : a ≤ b) (hb : b < 100000) : w64 ((a : Int) + (w64 ((w64 (Int.tdiv ((b - a : Nat) : Int) 4)) * (c : Int)))) = ((a + (b - a) / 4 * c : Nat) : Int) := by
  have e : (((b - a) / 4 * c : Nat) : Int) = ((b - a : Nat) : Int) / 4 * (c : Int) := by
    rw [Int.natCast_mul, Int.natCast_ediv]; rfl
  have hle : (b - a) / 4 * c ≤ (b - a) / 4 * 3 := Nat.mul_le_mul_left _ hc
  rw [Int.tdiv_eq_ediv_of_nonneg (by omega), w64_in (n := ((b - a : Nat) : Int) / 4) (by omega), ← e, w64_nat (by omega), wadd (by omega) (by omega)]
section
variable {F n a b : Nat} (hF : 200 ≤ F) (hn : n ≤ 16)
include hn
theorem brk_in {m : Nat} (hab : a + 8 ≤ b) (hb : b ≤ n) (hm : 1 ≤ m ∧ m ≤ 2 * (b - a)) : ∀ (k i : Nat) (l : List (List Int)) (x : Int), Ok n l → a ≤ i → i ≤ a + (b - a) / 4 * 2 + 2 → a + (b - a) / 4 * 2 + 2 < k + i → ∃ r, f115_p2 F 0 n a b m k i l x = some r ∧ r.Perm l := by
  intro k
  induction k with
  | zero => intro i l x _ _ _ h; omega
  | succ k ih =>
    intro i l x hl h1 h2 h3
    have e1 : w64 ((w64 ((a : Int) + (w64 ((w64 (Int.tdiv (w64 ((b : Int) - a)) 4)) * 2)))) + 1) = ((a + (b - a) / 4 * 2 + 1 : Nat) : Int) := by
      rw [wsub (by omega) (by omega), Int.tdiv_eq_ediv_of_nonneg (by omega), w64_in (n := ((b - a : Nat) : Int) / 4) (by omega), w64_in (n := ((b - a : Nat) : Int) / 4 * 2) (by omega), w64_in (n := (a : Int) + _) (by omega), w64_in (by omega)]; omega
    unfold f115_p2
    rw [e1]
    by_cases hi : i ≤ a + (b - a) / 4 * 2 + 1
    · rw [if_pos (by rw [decide_eq_true_eq]; omega)]
      unfold f102
      rw [Option.bind_some]
      generalize iXor .u64 _ _ = y
      dsimp only
      have e2 : IntKind.wrap .u64 ((m : Int) - 1) = ((m - 1 : Nat) : Int) := by
        rw [show (m : Int) - 1 = ((m - 1 : Nat) : Int) by omega, u64_nat (by omega)]
      obtain ⟨o, o1, o2⟩ : ∃ o : Nat, f115_p5_1 F 0 n a b m i y l y = some (o : Int) ∧ o < b - a := by
        obtain ⟨r, r1, r2⟩ := and_u (x := y) (m := m - 1) (by omega)
        unfold f115_p5_1
        rw [e2, r1, wsub (by omega) (by omega), show w64 (r : Int) = (r : Int) from w64_nat (by omega)]
        by_cases hr : b - a ≤ r
        · rw [if_pos (by rw [decide_eq_true_eq]; omega), wsub hr (by omega)]
          exact ⟨r - (b - a), rfl, by omega⟩
        · rw [if_neg (by rw [decide_eq_true_eq]; omega)]
          exact ⟨r, rfl, by omega⟩
      obtain ⟨v, g1, _⟩ := hl.get (i := a + o) (by omega)
      obtain ⟨w, g2, _⟩ := hl.get (i := i) (by omega)
      have p := sw_perm g2 g1
      rw [o1, Option.bind_some, wadd (by omega) (by omega), rq (by omega), g1, Option.bind_some, rq (by omega), g2, Option.bind_some, rs hl (by omega), rt hl (by omega), w64_succ (by omega)]
      obtain ⟨r, r1, r2⟩ := ih (i + 1) _ y (hl.perm p) (by omega) (by omega) (by omega)
      exact ⟨r, r1, r2.trans p⟩
    · rw [if_neg (by rw [decide_eq_true_eq]; omega)]
      exact ⟨l, rfl, .refl _⟩
include hF
theorem brk_ok (hp : Pow F) (hab : a ≤ b) (hb : b ≤ n) {l : List (List Int)} (hl : Ok n l) : ∃ r, f115 F 0 n a b l = some r ∧ r.Perm l := by
  unfold f115 f115_p0
  rw [wsub hab (by omega)]
  by_cases h : 8 ≤ b - a
  · obtain ⟨m, m1, m2, m3⟩ := hp (b - a) (by omega) (by omega)
    have e1 : w64 ((w64 ((a : Int) + (w64 ((w64 (Int.tdiv ((b - a : Nat) : Int) 4)) * 2)))) - 1) = ((a + (b - a) / 4 * 2 - 1 : Nat) : Int) := by
      rw [Int.tdiv_eq_ediv_of_nonneg (by omega), w64_in (n := ((b - a : Nat) : Int) / 4) (by omega), w64_in (n := ((b - a : Nat) : Int) / 4 * 2) (by omega), w64_in (n := (a : Int) + _) (by omega), w64_in (by omega)]; omega
    obtain ⟨r, r1, r2⟩ := brk_in (F := F) (n := n) (a := a) (b := b) (m := m) hn (by omega) hb ⟨m2, m3⟩ F (a + (b - a) / 4 * 2 - 1) l (IntKind.wrap .u64 ((b - a : Nat) : Int)) hl (by omega) (by omega) (by omega)
    rw [if_pos (by rw [decide_eq_true_eq]; omega), m1, Option.bind_some, e1]
    rw [r1]
    exact ⟨r, rfl, r2⟩
  · rw [if_neg (by rw [decide_eq_true_eq]; omega)]
    exact ⟨l, rfl, .refl _⟩
theorem ord_eq {i j s : Nat} {l : List (List Int)} (hl : Ok n l) (hi : i < n) (hj : j < n) (hs : s < 1000) : ∃ (p q t : Nat), f167 F 0 n i j l s = some ((p : Int), (q : Int), (t : Int)) ∧ ((p = i ∧ q = j) ∨ (p = j ∧ q = i)) ∧ t ≤ s + 1 := by
  have _ := hn
  unfold f167
  obtain ⟨v, g1, v1⟩ := hl.get hj
  obtain ⟨w, g2, _⟩ := hl.get hi
  obtain ⟨c, g3⟩ := cmp (y := w) hF v1
  rw [rq hj, g1, Option.bind_some, rq hi, g2, Option.bind_some, g3, Option.bind_some, w64_succ (by omega)]
  split
  · exact ⟨j, i, s + 1, rfl, Or.inr ⟨rfl, rfl⟩, by omega⟩
  · exact ⟨i, j, s, rfl, Or.inl ⟨rfl, rfl⟩, by omega⟩
theorem med_eq {i j m : Nat} {l : List (List Int)} (hl : Ok n l) (hi : i < n) (hj : j < n) (hm : m < n) : ∃ (p t : Nat), f144 F 0 n i j m l 0 = some ((p : Int), (t : Int)) ∧ (p = i ∨ p = j ∨ p = m) ∧ t ≤ 3 := by
  unfold f144
  obtain ⟨p, q, t, e, h, ht⟩ := ord_eq (s := 0) hF hn hl hi hj (by omega)
  rw [show f167 F 0 n i j l 0 = _ from e, Option.bind_some]
  dsimp only
  obtain ⟨p2, q2, t2, e2, h2, ht2⟩ := ord_eq (i := q) (j := m) (s := t) hF hn hl (by omega) hm (by omega)
  rw [e2, Option.bind_some]
  dsimp only
  obtain ⟨p3, q3, t3, e3, h3, ht3⟩ := ord_eq (i := p) (j := p2) (s := t2) hF hn hl (by omega) (by omega) (by omega)
  rw [e3, Option.bind_some]
  exact ⟨q3, t3, rfl, by omega, by omega⟩
theorem piv_eq (hab : a < b) (hb : b ≤ n) {l : List (List Int)} (hl : Ok n l) : ∃ (p : Nat) (h : Int), f116 F 0 n a b l = some ((p : Int), h) ∧ a ≤ p ∧ p < b ∧ h ≠ 2 := by
  have q1 : w64 ((a : Int) + (w64 ((w64 (Int.tdiv ((b - a : Nat) : Int) 4)) * 1))) = _ := quart (c := 1) (by omega) (by omega) (by omega)
  have q2 : w64 ((a : Int) + (w64 ((w64 (Int.tdiv ((b - a : Nat) : Int) 4)) * 2))) = _ := quart (c := 2) (by omega) (by omega) (by omega)
  have q3 : w64 ((a : Int) + (w64 ((w64 (Int.tdiv ((b - a : Nat) : Int) 4)) * 3))) = _ := quart (c := 3) (by omega) (by omega) (by omega)
  obtain ⟨p, t, e, e1, e2, e3⟩ : ∃ (p t : Nat), f116_p0 F 0 n b a l = some ((p : Int), (t : Int)) ∧ a ≤ p ∧ p < b ∧ t ≤ 3 := by
    unfold f116_p0
    rw [wsub (by omega) (by omega)]
    by_cases h8 : 8 ≤ b - a
    · rw [if_pos (by rw [decide_eq_true_eq]; omega)]
      unfold f116_p1
      obtain ⟨p, t, e, e1, e2⟩ := med_eq (i := a + (b - a) / 4 * 1) (j := a + (b - a) / 4 * 2) (m := a + (b - a) / 4 * 3) hF hn hl (by omega) (by omega) (by omega)
      rw [wsub (by omega) (by omega), if_neg (by rw [decide_eq_true_eq]; omega), Option.bind_some, q1, q2, q3, e, Option.bind_some]
      exact ⟨p, t, rfl, by omega, by omega, e2⟩
    · rw [if_neg (by rw [decide_eq_true_eq]; omega), q2]
      exact ⟨_, 0, rfl, by omega, by omega, by omega⟩
  unfold f116
  rw [e, Option.bind_some]
  dsimp only
  by_cases h0 : t = 0
  · subst h0
    rw [if_pos (by decide)]
    exact ⟨p, 1, rfl, e1, e2, by decide⟩
  · rw [if_neg (by rw [beq_iff_eq]; omega), if_neg (by rw [beq_iff_eq]; omega)]
    exact ⟨p, 0, rfl, e1, e2, by decide⟩
theorem pis_ok (hab : a < b) (hb : b ≤ n) {l : List (List Int)} (hl : Ok n l) : ∃ z, f118 F 0 n a b l = some z := by
  have key : ∀ (x : Int) (k i : Nat), 0 < i → i ≤ b → b < k + i → ∃ j : Nat, f118_p5 F 0 n a b x l k i = some (j : Int) := by
    intro x k
    induction k with
    | zero => intro i _ _ h; omega
    | succ k ih =>
      intro i h0 h1 h2
      unfold f118_p5
      by_cases hi : i < b
      · obtain ⟨v, g1, v1⟩ := hl.get (i := i) (by omega)
        obtain ⟨w, g2, _⟩ := hl.get (i := i - 1) (by omega)
        obtain ⟨c, g3⟩ := cmp (y := w) hF v1
        rw [if_pos (by rw [decide_eq_true_eq]; omega), rq (by omega), g1, Option.bind_some, wm h0 (by omega), rq (by omega), g2, Option.bind_some, g3, Option.bind_some, w64_succ (by omega)]
        split
        · exact ⟨i, rfl⟩
        · exact ih (i + 1) (by omega) (by omega) (by omega)
      · rw [if_neg (by rw [decide_eq_true_eq]; omega)]
        exact ⟨i, rfl⟩
  obtain ⟨j, e⟩ := key 0 F (a + 1) (by omega) (by omega) (by omega)
  have e2 : ∀ k, f118_p1 F 0 n a b l (k + 1) (w64 ((a : Int) + 1)) 0 = some (if ((j : Int) == (b : Int)) = true then .c0 true else .c0 false) := by
    intro k
    rw [w64_succ (by omega)]
    unfold f118_p1
    dsimp only
    rw [if_pos (show decide ((0 : Int) < 5) = true from rfl), e, Option.bind_some, wsub (by omega) (by omega)]
    have c : decide (((b - a : Nat) : Int) < 50) = true := by rw [decide_eq_true_eq]; omega
    rw [if_pos c]
    split <;> rfl
  have e2 := e2 (F - 1)
  rw [show F - 1 + 1 = F by omega] at e2
  unfold f118
  rw [e2, Option.bind_some]
  split <;> exact ⟨_, rfl⟩
end
end
section
section
variable {F n a b : Nat} (hF : 200 ≤ F) (hn : n ≤ 16)
include hF hn
theorem up120 {j : Nat} {l : List (List Int)} (h : Ok n l) (ha : a < n) (hj : j < n) : ∀ (k i : Nat), j + 2 ≤ k + i → 0 < k → ∃ i' : Nat, f120_p13_1 F 0 n a j l k i = some (i' : Int) ∧ i ≤ i' ∧ (i' ≤ j + 1 ∨ i' = i) := by
  intro k
  induction k with
  | zero => intro i _ h; omega
  | succ k ih =>
    intro i h1 _
    unfold f120_p13_1
    by_cases hi : i ≤ j
    · obtain ⟨v, e1, v1⟩ := h.get (i := i) (by omega)
      obtain ⟨w, e2, w1⟩ := h.get ha
      obtain ⟨c, e3⟩ := cmp (y := w) hF v1
      rw [if_pos (by rw [decide_eq_true_eq]; omega), rq (by omega), e1, Option.bind_some, rq ha, e2, Option.bind_some, e3, Option.bind_some, w64_succ (by omega)]
      split
      · obtain ⟨i', e, q1, q2⟩ := ih (i + 1) (by omega) (by omega)
        exact ⟨i', e, by omega, by omega⟩
      · exact ⟨i, rfl, by omega, by omega⟩
    · rw [if_neg (by rw [decide_eq_true_eq]; omega)]
      exact ⟨i, rfl, by omega, by omega⟩
theorem dn120 {i : Nat} {l : List (List Int)} (h : Ok n l) (ha : a < n) (hi0 : 0 < i) : ∀ (k j : Nat), j < k → j < n → ∃ j' : Nat, f120_p17_1 F 0 n a i l k j = some (j' : Int) ∧ j' ≤ j ∧ (i ≤ j' + 1 ∨ j' = j) := by
  intro k
  induction k with
  | zero => intro j h; omega
  | succ k ih =>
    intro j h1 h2
    unfold f120_p17_1
    by_cases hi : i ≤ j
    · obtain ⟨v, e1, v1⟩ := h.get (i := j) (by omega)
      obtain ⟨w, e2, w1⟩ := h.get ha
      obtain ⟨c, e3⟩ := cmp (y := w) hF v1
      rw [if_pos (by rw [decide_eq_true_eq]; omega), rq (by omega), e1, Option.bind_some, rq ha, e2, Option.bind_some, e3, Option.bind_some, wm (by omega) (by omega)]
      split
      · exact ⟨j, rfl, by omega, by omega⟩
      · obtain ⟨j', e, q1, q2⟩ := ih (j - 1) (by omega) (by omega)
        exact ⟨j', e, by omega, by omega⟩
    · rw [if_neg (by rw [decide_eq_true_eq]; omega)]
      exact ⟨j, rfl, by omega, by omega⟩
theorem u120_1 {l0 : List (List Int)} {v w : List Int} {p : Int} : ∀ (k : Nat) (i : Int), f120_p1 F 0 n a b l0 v p w k i = f120_p13_1 F 0 n a (w64 ((b : Int) - 1)) (List.set (List.set l0 (0 + Int.toNat (a : Int)) v) (0 + Int.toNat p) w) k i
  | 0, _ => by have _ := hF; have _ := hn; rfl
  | k + 1, i => by unfold f120_p1 f120_p13_1; simp only [u120_1]
theorem u120_5 {l0 : List (List Int)} {v w : List Int} {p i0 : Int} : ∀ (k : Nat) (j : Int), f120_p5 F 0 n a i0 l0 v p w k j = f120_p17_1 F 0 n a i0 (List.set (List.set l0 (0 + Int.toNat (a : Int)) v) (0 + Int.toNat p) w) k j
  | 0, _ => by have _ := hF; have _ := hn; rfl
  | k + 1, j => by unfold f120_p5 f120_p17_1; simp only [u120_5]
theorem par_loop (hb : b ≤ n) : ∀ (k i j : Nat) (l : List (List Int)), j < k → a < i → a ≤ j → j < b → i ≤ b → Ok n l → ∃ (m : Nat) (r : List (List Int)), f120_p10 F 0 n a k i j l = some ((m : Int), r) ∧ a ≤ m ∧ m < b ∧ r.Perm l := by
  intro k
  induction k with
  | zero => intro i j l h; omega
  | succ k ih =>
    intro i j l h1 h2 h3 h4 h5 h
    obtain ⟨i', e1, q1, q2⟩ := up120 hF hn (a := a) (j := j) h (by omega) (by omega) F i (by omega) (by omega)
    obtain ⟨j', e2, q3, q4⟩ := dn120 hF hn (a := a) (i := i') h (by omega) (by omega) F j (by omega) (by omega)
    unfold f120_p10
    rw [e1, Option.bind_some, e2, Option.bind_some]
    by_cases hij : i' > j'
    · rw [if_pos (by rw [decide_eq_true_eq]; omega)]
      exact ⟨j', l, rfl, by omega, by omega, .refl _⟩
    · obtain ⟨v, e3, v1⟩ := h.get (i := j') (by omega)
      obtain ⟨w, e4, w1⟩ := h.get (i := i') (by omega)
      rw [if_neg (by rw [decide_eq_true_eq]; omega), rq (by omega), e3, Option.bind_some, rq (by omega), e4, Option.bind_some, rs h (by omega), rt h (by omega), w64_succ (by omega), wm (by omega) (by omega)]
      have p := sw_perm e4 e3
      obtain ⟨m, r, e, m1, m2, q⟩ := ih (i' + 1) (j' - 1) _ (by omega) (by omega) (by omega) (by omega) (by omega) (h.perm p)
      exact ⟨m, r, e, m1, m2, q.trans p⟩
theorem par_ok {p : Nat} (hab : a < b) (hb : b ≤ n) (hp : a ≤ p ∧ p < b) {l : List (List Int)} (h : Ok n l) : ∃ (m : Nat) (z : Bool) (r : List (List Int)), f120 F 0 n a b p l = some ((m : Int), z, r) ∧ a ≤ m ∧ m < b ∧ r.Perm l := by
  obtain ⟨v, e1, v1⟩ := h.get (i := p) (by omega)
  obtain ⟨w, e2, w1⟩ := h.get (i := a) (by omega)
  have q := sw_perm e2 e1
  have h' := h.perm q
  have hu := u120_1 hF hn (a := a) (b := b) (l0 := l) (v := v) (w := w) (p := (p : Int))
  have hd := fun i0 => u120_5 hF hn (a := a) (l0 := l) (v := v) (w := w) (p := (p : Int)) (i0 := i0)
  unfold f120
  rw [rq (by omega), e1, Option.bind_some, rq (by omega), e2, Option.bind_some, rs h (by omega), rt h (by omega), w64_succ (by omega), hu]
  simp only [hd]
  generalize List.set (List.set l (0 + Int.toNat (a : Int)) v) (0 + Int.toNat (p : Int)) w = l1 at *
  rw [wm (by omega) (by omega)]
  obtain ⟨i', g1, q1, q2⟩ := up120 hF hn (a := a) (j := b - 1) h' (by omega) (by omega) F (a + 1) (by omega) (by omega)
  obtain ⟨j', g2, q3, q4⟩ := dn120 hF hn (a := a) (i := i') h' (by omega) (by omega) F (b - 1) (by omega) (by omega)
  rw [g1, Option.bind_some, g2, Option.bind_some]
  by_cases hij : i' > j'
  · obtain ⟨x, e3, _⟩ := h'.get (i := a) (by omega)
    obtain ⟨y, e4, _⟩ := h'.get (i := j') (by omega)
    have c : decide ((i' : Int) > (j' : Int)) = true := by rw [decide_eq_true_eq]; omega
    rw [if_pos c, e3, Option.bind_some, rq (by omega), e4, Option.bind_some, rs h' (by omega), rt h' (by omega)]
    exact ⟨j', true, _, rfl, by omega, by omega, (sw_perm e4 e3).trans q⟩
  · obtain ⟨x, e3, _⟩ := h'.get (i := j') (by omega)
    obtain ⟨y, e4, _⟩ := h'.get (i := i') (by omega)
    have c : ¬ decide ((i' : Int) > (j' : Int)) = true := by rw [decide_eq_true_eq]; omega
    have p2 := sw_perm e4 e3
    have h2 := h'.perm p2
    rw [if_neg c, rq (by omega), e3, Option.bind_some, rq (by omega), e4, Option.bind_some, rs h' (by omega), rt h' (by omega), w64_succ (by omega), wm (by omega) (by omega)]
    obtain ⟨m, r, g3, m1, m2, p3⟩ := par_loop hF hn (a := a) hb F (i' + 1) (j' - 1) _ (by omega) (by omega) (by omega) (by omega) (by omega) h2
    have h3 := h2.perm p3
    obtain ⟨x3, e5, _⟩ := h3.get (i := a) (by omega)
    obtain ⟨y3, e6, _⟩ := h3.get (i := m) (by omega)
    rw [g3, Option.bind_some]
    dsimp only
    rw [e5, Option.bind_some, rq (by omega), e6, Option.bind_some, rs h3 (by omega), rt h3 (by omega)]
    exact ⟨m, false, _, rfl, by omega, by omega, (sw_perm e6 e5).trans (p3.trans (p2.trans q))⟩
def Rec (n w : Nat) (rec : Nat → Nat → Int → Int → Int → List (List Int) → Option (List (List Int))) : Prop :=
  ∀ (a b lim : Nat) (l : List (List Int)), a ≤ b → b ≤ n → b - a < w → b - a ≤ 12 + lim → lim ≤ 100 → Ok n l → ∃ r, rec 0 n a b lim l = some r ∧ r.Perm l
theorem loop_ok (hp : Pow F) {w : Nat} {rec : Nat → Nat → Int → Int → Int → List (List Int) → Option (List (List Int))} (hr : Rec n w rec) : ∀ (k a b lim : Nat) (z1 z2 : Bool) (l : List (List Int)), a ≤ b → b ≤ n → b - a < k → b - a ≤ w → b - a ≤ 12 + lim → lim ≤ 100 → Ok n l →
    ∃ r, f93_p1_1 F rec 0 n k a b lim z1 z2 l = some r ∧ r.Perm l := by
  intro k
  induction k with
  | zero => intro a b lim z1 z2 l _ _ h; omega
  | succ k ih =>
    intro a b lim z1 z2 l h1 h2 h3 h4 h5 h6 h
    unfold f93_p1_1
    rw [wsub h1 (by omega)]
    by_cases hs : b - a ≤ 12
    · obtain ⟨r, e, p⟩ := ins_ok hF hn h1 h2 h
      rw [if_pos (by rw [decide_eq_true_eq]; omega), e]
      exact ⟨r, rfl, p⟩
    · have hlim : 0 < lim := by omega
      have c1 : ¬ (decide (((b - a : Nat) : Int) ≤ 12) = true) := by rw [decide_eq_true_eq]; omega
      have c2 : ¬ ((((lim : Nat) : Int) == 0) = true) := by rw [beq_iff_eq]; omega
      rw [if_neg c1, if_neg c2]
      -- the patterns
      obtain ⟨lim', l1, e1, p1, hl1⟩ : ∃ (lim' : Nat) (l1 : List (List Int)), f93_p5_1 F 0 n a b lim z1 z2 l = some ((lim' : Int), l1) ∧ l1.Perm l ∧ lim ≤ lim' + 1 ∧ lim' ≤ 100 := by
        unfold f93_p5_1
        cases z1 with
        | true => exact ⟨lim, l, rfl, .refl _, by omega, h6⟩
        | false =>
          obtain ⟨r, e, p⟩ := brk_ok hF hn hp h1 h2 h
          rw [if_neg (by decide), e, Option.bind_some, wm hlim (by omega)]
          exact ⟨lim - 1, r, rfl, p, by omega, by omega⟩
      have h' := h.perm p1
      obtain ⟨p, hint, e2, p2, p3, p4⟩ := piv_eq hF hn (show a < b by omega) h2 h'
      have e3 : ∀ x y, f93_p6_1 F 0 n a b x z1 z2 y hint l1 = some () := fun x y => by
        unfold f93_p6_1
        rw [if_neg (by rw [beq_iff_eq]; exact p4)]
      obtain ⟨zz, e4⟩ : ∃ zz, f93_r15_1 F 0 n a b lim' z1 z2 p hint l1 = some zz := by
        unfold f93_r15_1
        cases z1 <;> cases z2 <;> exact ⟨_, rfl⟩
      rw [e1, Option.bind_some]
      dsimp only
      rw [e2, Option.bind_some]
      dsimp only
      rw [e3, Option.bind_some, e4, Option.bind_some]
      obtain ⟨y, e5⟩ : ∃ y, f93_p7_1 F 0 n a b lim' z1 z2 p zz l1 = some y := by
        unfold f93_p7_1
        cases zz with
        | true =>
          obtain ⟨z, e⟩ := pis_ok hF hn (show a < b by omega) h2 h'
          rw [if_pos rfl, e, Option.bind_some]
          split <;> exact ⟨_, rfl⟩
        | false => exact ⟨_, rfl⟩
      rw [e5, Option.bind_some]
      cases y with
      | c0 => exact ⟨l1, rfl, p1⟩
      | c1 =>
        dsimp only
        obtain ⟨v, e6⟩ : ∃ v, f93_r17_1 F 0 n a b lim' z1 z2 p l1 = some v := by
          unfold f93_r17_1
          by_cases ha : 0 < a
          · obtain ⟨x, g1, x1⟩ := h'.get (i := a - 1) (by omega)
            obtain ⟨w, g2, _⟩ := h'.get (i := p) (by omega)
            obtain ⟨c, g3⟩ := cmp (y := w) hF x1
            rw [if_pos (by rw [decide_eq_true_eq]; omega), wm ha (by omega), rq (by omega), g1, Option.bind_some, rq (by omega), g2, Option.bind_some, g3]
            exact ⟨_, rfl⟩
          · rw [if_neg (by rw [decide_eq_true_eq]; omega)]
            exact ⟨_, rfl⟩
        rw [e6, Option.bind_some]
        cases v with
        | true =>
          obtain ⟨m, r, g1, m1, m2, q⟩ := eq_ok hF hn (show a < b by omega) h2 ⟨p2, p3⟩ h'
          rw [if_pos rfl, g1, Option.bind_some]
          dsimp only
          obtain ⟨r', g2, q2⟩ := ih m b lim' z1 z2 r (by omega) h2 (by omega) (by omega) (by omega) (by omega) (h'.perm q)
          exact ⟨r', g2, q2.trans (q.trans p1)⟩
        | false =>
          obtain ⟨m, z, r, g1, m1, m2, q⟩ := par_ok hF hn (show a < b by omega) h2 ⟨p2, p3⟩ h'
          rw [if_neg (by decide), g1, Option.bind_some]
          dsimp only
          have hq := h'.perm q
          unfold f93_p10
          rw [wsub (show a ≤ m by omega) (by omega), wsub (show m ≤ b by omega) (by omega), w64_succ (by omega)]
          by_cases hc : m - a < b - m
          · obtain ⟨r1, g2, q2⟩ := hr a m lim' r (by omega) (by omega) (by omega) (by omega) (by omega) hq
            rw [if_pos (by rw [decide_eq_true_eq]; omega), g2, Option.bind_some, Option.bind_some]
            dsimp only
            obtain ⟨r', g3, q3⟩ := ih (m + 1) b lim' (decide (((m - a : Nat) : Int) ≥ w64 (Int.tdiv (w64 ((b : Int) - (a : Int))) 8))) z r1 (by omega) h2 (by omega) (by omega) (by omega) (by omega) (hq.perm q2)
            exact ⟨r', g3, q3.trans (q2.trans (q.trans p1))⟩
          · obtain ⟨r1, g2, q2⟩ := hr (m + 1) b lim' r (by omega) (by omega) (by omega) (by omega) (by omega) hq
            rw [if_neg (by rw [decide_eq_true_eq]; omega), g2, Option.bind_some, Option.bind_some]
            dsimp only
            obtain ⟨r', g3, q3⟩ := ih a m lim' (decide (((b - m : Nat) : Int) ≥ w64 (Int.tdiv (w64 ((b : Int) - (a : Int))) 8))) z r1 (by omega) (by omega) (by omega) (by omega) (by omega) (by omega) (hq.perm q2)
            exact ⟨r', g3, q3.trans (q2.trans (q.trans p1))⟩
theorem sort_rec (hp : Pow F) : ∀ k : Nat, Rec n k (f93 F k) := by
  intro k
  induction k with
  | zero => intro a b lim l _ _ h; omega
  | succ k ih =>
    intro a b lim l h1 h2 h3 h4 h5 h
    obtain ⟨r, e, p⟩ := loop_ok hF hn hp ih F a b lim true true l h1 h2 (by omega) (by omega) h4 h5 h
    unfold f93 f93_b
    rw [e]
    exact ⟨r, rfl, p⟩
end
theorem sorted {F : Nat} (hF : 200 ≤ F) (hp : Pow F) (hl : Lim F) {l : List (List Int)} (h16 : l.length ≤ 16) (hs : ∀ x ∈ l, x.length ≤ 100) : ∃ r, f59 F l = some r ∧ r.Perm l := by
  obtain ⟨m, e, m1, m2⟩ := hl l.length h16
  obtain ⟨r, e2, p⟩ := sort_rec (n := l.length) hF h16 hp F 0 l.length m l (by omega) (by omega) (by omega) (by omega) m2 ⟨rfl, hs⟩
  unfold f59
  rw [e, Option.bind_some, show f93 F F 0 l.length 0 ((l.length : Nat) : Int) m l = some r from e2]
  exact ⟨r, rfl, p⟩
end
section
set_option maxRecDepth 100000
def cst (w : List Nat) : List Int := w.map fun (x : Nat) => (x : Int)
theorem cst_len (w : List Nat) : (cst w).length = w.length := by simp [cst]
theorem cst_app (u v : List Nat) : cst (u ++ v) = cst u ++ cst v := by simp [cst]
theorem cst_at {w : List Nat} {i : Nat} (h : i < w.length) : at? (cst w) (i : Int) = some ((w[i] : Nat) : Int) := at_of (by rw [cst, List.getElem?_map, List.getElem?_eq_getElem h]; rfl)
theorem cst_mem {w : List Nat} {x : Nat} : (x : Int) ∈ cst w ↔ x ∈ w := by
  unfold cst
  rw [List.mem_map]
  exact ⟨fun ⟨y, h1, h2⟩ => by have : y = x := by omega
                               rwa [← this], fun h => ⟨x, h, rfl⟩⟩
theorem drop_cons {α : Type} {l : List α} {i : Nat} (h : i < l.length) : l.drop i = l[i] :: l.drop (i + 1) := List.drop_eq_getElem_cons h
def bt (x : Nat) : List Int := ((List.range 4).filter fun k => x.testBit k).map fun (k : Nat) => (k : Int)
def near (n x i : Nat) : Bool := x == i || (List.range n).any fun k => x ^^^ 2 ^ k == i
def nb (x j i : Nat) : Int := if x ^^^ 2 ^ j = i then 1 else 0
def sN (x i : Nat) : Nat → Int
  | 0 => if x = i then 1 else 0
  | j + 1 => sN x i j + nb x j i
def tbOk (F : Nat) : Bool := (List.range 5).all fun n => (List.range 16).all fun x => if 1 ≤ n ∧ x < 2 ^ n then decide (f5 F (x : Nat) (n : Nat) = some (bt x)) && decide (f55 F (n : Nat) (bt x) = some (((x : Nat) : Int), 0)) && decide (f58 F (x : Nat) = some (bt x)) else true
structure Tb (F : Nat) : Prop where
  big : 200 ≤ F
  pow : Pow F
  lim : Lim F
  held : ∀ n x : Nat, 1 ≤ n → n ≤ 4 → x < 2 ^ n → f5 F x n = some (bt x)
  one : ∀ n x : Nat, 1 ≤ n → n ≤ 4 → x < 2 ^ n → f55 F n (bt x) = some ((x : Int), 0)
  list : ∀ x : Nat, x < 16 → f58 F x = some (bt x)
theorem pow_le {n : Nat} (h : n ≤ 4) : 2 ^ n ≤ 16 := Nat.le_trans (Nat.pow_le_pow_right (by omega) h) (by decide)
theorem tb_of {F : Nat} (h0 : 200 ≤ F) (h1 : powOk F = true) (h2 : limOk F = true) (h : tbOk F = true) : Tb F := by
  have key : ∀ n x : Nat, 1 ≤ n → n ≤ 4 → x < 2 ^ n → f5 F x n = some (bt x) ∧ f55 F n (bt x) = some ((x : Int), 0) ∧ f58 F x = some (bt x) := by
    intro n x n1 n2 hx
    have hp := pow_le n2
    have := (List.all_eq_true.1 ((List.all_eq_true.1 h) n (List.mem_range.2 (by omega)))) x (List.mem_range.2 (by omega))
    rw [if_pos ⟨n1, hx⟩] at this
    simp only [Bool.and_eq_true, decide_eq_true_eq] at this
    exact ⟨this.1.1, this.1.2, this.2⟩
  exact ⟨h0, pow_of h1, lim_of h2, fun n x a b c => (key n x a b c).1, fun n x a b c => (key n x a b c).2.1, fun x hx => (key 4 x (by omega) (by omega) (by simpa using hx)).2.2⟩
theorem ar_look : ((List.range 5).all fun n => (List.range 16).all fun x => (List.range 16).all fun i => if x < 2 ^ n ∧ i < 2 ^ n then
    decide (((iAnd .i64 (iXor .i64 (i : Nat) (x : Nat)) (w64 ((iXor .i64 (i : Nat) (x : Nat)) - 1))) == 0) = near n x i) && decide (sN x i n = if near n x i then 1 else 0) && decide (bt x = bt i → x = i) && decide (i < n → iXor .u64 (x : Nat) (iShl .u64 1 (i : Nat)) = ((x ^^^ 2 ^ i : Nat) : Int) ∧ iXor .i64 (x : Nat) (iShl .i64 1 (i : Nat)) = ((x ^^^ 2 ^ i : Nat) : Int) ∧ x ^^^ 2 ^ i < 2 ^ n) else true) = true := by decide +kernel
structure Ar (n x i : Nat) : Prop where
  pw : ((iAnd .i64 (iXor .i64 i x) (w64 ((iXor .i64 i x) - 1))) == 0) = near n x i
  cnt : sN x i n = if near n x i then 1 else 0
  inj : bt x = bt i → x = i
  nbr : i < n → iXor .u64 x (iShl .u64 1 i) = ((x ^^^ 2 ^ i : Nat) : Int) ∧ iXor .i64 x (iShl .i64 1 i) = ((x ^^^ 2 ^ i : Nat) : Int) ∧ x ^^^ 2 ^ i < 2 ^ n
theorem ar {n x i : Nat} (hn : n ≤ 4) (hx : x < 2 ^ n) (hi : i < 2 ^ n) : Ar n x i := by
  have hp := pow_le hn
  have := (List.all_eq_true.1 ((List.all_eq_true.1 ((List.all_eq_true.1 ar_look) n (List.mem_range.2 (by omega)))) x (List.mem_range.2 (by omega)))) i (List.mem_range.2 (by omega))
  rw [if_pos ⟨hx, hi⟩] at this
  simp only [Bool.and_eq_true, decide_eq_true_eq] at this
  exact ⟨this.1.1.1, this.1.1.2, this.1.2, this.2⟩
theorem sh_look : ((List.range 5).all fun n => decide (iShl .i64 1 (n : Nat) = ((2 ^ n : Nat) : Int)) && decide (n < 2 ^ n)) = true := by decide +kernel
theorem sh {n : Nat} (h : n ≤ 4) : iShl .i64 1 n = ((2 ^ n : Nat) : Int) ∧ n < 2 ^ n := by
  have := (List.all_eq_true.1 sh_look) n (List.mem_range.2 (by omega))
  simpa using this
theorem bt_small (x : Nat) : (bt x).length ≤ 4 := by
  unfold bt
  rw [List.length_map]
  exact Nat.le_trans (List.length_filter_le _ _) (by simp)
theorem nodup_len : ∀ (N : Nat) (l : List Nat), l.Nodup → (∀ x ∈ l, x < N) → l.length ≤ N
  | 0, [], _, _ => Nat.le_refl _
  | 0, x :: l, _, h => by have := h x (by simp); omega
  | N + 1, l, hd, h => by
    have ih := nodup_len N (l.erase N) (hd.erase N) fun x hx => by
      have h1 := h x (List.mem_of_mem_erase hx)
      have h2 := (hd.mem_erase_iff.1 hx).1
      omega
    by_cases hm : N ∈ l
    · rw [List.length_erase_of_mem hm] at ih; omega
    · rw [List.erase_of_not_mem hm] at ih; omega
structure Code (n : Nat) (w : List Nat) : Prop where
  up : w.Pairwise (· < ·)
  lt : ∀ x ∈ w, x < 2 ^ n
theorem Code.nodup {n : Nat} {w : List Nat} (h : Code n w) : w.Nodup := h.up.imp fun h => Nat.ne_of_lt h
theorem Code.len {n : Nat} {w : List Nat} (h : Code n w) (hn : n ≤ 4) : w.length ≤ 16 := by
  have := nodup_len _ _ h.nodup h.lt
  have := pow_le hn
  omega
section
variable {F : Nat} (hF : 200 ≤ F)
include hF
theorem has_eq {l : List Int} {v : Int} (hl : l.length ≤ 100) : f56 F l v = some (decide (v ∈ l)) := by
  have key : ∀ (k i : Nat), i ≤ l.length → l.length < k + i → ∃ z, f91_p1 F l v k i = some z ∧ ((v ∈ l.drop i ∧ ∃ j : Nat, z = .c0 (j : Int)) ∨ (v ∉ l.drop i ∧ z = .c1)) := by
    intro k
    induction k with
    | zero => intro i _ h; omega
    | succ k ih =>
      intro i h1 h2
      unfold f91_p1
      by_cases hi : i < l.length
      · rw [if_pos (by rw [decide_eq_true_eq]; omega), at_get hi, Option.bind_some, w64_succ (by omega), drop_cons hi]
        by_cases hv : v = l[i]
        · rw [if_pos (by simpa using hv)]
          exact ⟨_, rfl, Or.inl ⟨by rw [hv]; exact List.mem_cons_self, i, rfl⟩⟩
        · rw [if_neg (by simpa using hv)]
          obtain ⟨z, e, h⟩ := ih (i + 1) (by omega) (by omega)
          refine ⟨z, e, ?_⟩
          rcases h with ⟨q1, q2⟩ | ⟨q1, q2⟩
          · exact Or.inl ⟨List.mem_cons_of_mem _ q1, q2⟩
          · exact Or.inr ⟨fun h => (List.mem_cons.1 h).elim hv q1, q2⟩
      · rw [if_neg (by rw [decide_eq_true_eq]; omega), List.drop_eq_nil_of_le (by omega)]
        exact ⟨_, rfl, Or.inr ⟨by simp, rfl⟩⟩
  obtain ⟨z, e, h⟩ := key F 0 (by omega) (by omega)
  rw [List.drop_zero] at h
  unfold f56 f91
  rw [show f91_p1 F l v F 0 = some z from e, Option.bind_some]
  rcases h with ⟨q1, j, rfl⟩ | ⟨q1, rfl⟩
  · dsimp only
    rw [Option.bind_some, decide_eq_true q1, decide_eq_true (by omega)]
  · dsimp only
    rw [Option.bind_some, decide_eq_false q1]; rfl
theorem in_eq {l : List Int} {v : Int} (hl : l.length ≤ 100) : f14 F l v = some (decide (v ∈ l)) := by
  have key : ∀ (k i : Nat), i ≤ l.length → l.length < k + i → ∃ z, f35_p1 F l v k i = some z ∧ ((v ∈ l.drop i ∧ ∃ j : Nat, z = .c0 (j : Int)) ∨ (v ∉ l.drop i ∧ z = .c1)) := by
    intro k
    induction k with
    | zero => intro i _ h; omega
    | succ k ih =>
      intro i h1 h2
      unfold f35_p1
      by_cases hi : i < l.length
      · rw [if_pos (by rw [decide_eq_true_eq]; omega), at_get hi, Option.bind_some, w64_succ (by omega), drop_cons hi]
        by_cases hv : v = l[i]
        · rw [if_pos (by simpa using hv)]
          exact ⟨_, rfl, Or.inl ⟨by rw [hv]; exact List.mem_cons_self, i, rfl⟩⟩
        · rw [if_neg (by simpa using hv)]
          obtain ⟨z, e, h⟩ := ih (i + 1) (by omega) (by omega)
          refine ⟨z, e, ?_⟩
          rcases h with ⟨q1, q2⟩ | ⟨q1, q2⟩
          · exact Or.inl ⟨List.mem_cons_of_mem _ q1, q2⟩
          · exact Or.inr ⟨fun h => (List.mem_cons.1 h).elim hv q1, q2⟩
      · rw [if_neg (by rw [decide_eq_true_eq]; omega), List.drop_eq_nil_of_le (by omega)]
        exact ⟨_, rfl, Or.inr ⟨by simp, rfl⟩⟩
  obtain ⟨z, e, h⟩ := key F 0 (by omega) (by omega)
  rw [List.drop_zero] at h
  unfold f14 f35
  rw [show f35_p1 F l v F 0 = some z from e, Option.bind_some]
  rcases h with ⟨q1, j, rfl⟩ | ⟨q1, rfl⟩
  · dsimp only
    rw [Option.bind_some, decide_eq_true q1, decide_eq_true (by omega)]
  · dsimp only
    rw [Option.bind_some, decide_eq_false q1]; rfl
theorem same_eq {a b : List Int} (ha : a.length ≤ 100) : f12 F a b = some (decide (a = b)) := by
  unfold f12
  by_cases hl : a.length = b.length
  · have key : ∀ (k i : Nat), i ≤ a.length → a.length < k + i → f12_p2 F a b k i = some (if a.drop i = b.drop i then .c1 else .c0) := by
      intro k
      induction k with
      | zero => intro i _ h; omega
      | succ k ih =>
        intro i h1 h2
        unfold f12_p2
        by_cases hi : i < a.length
        · rw [if_pos (by rw [decide_eq_true_eq]; omega), at_get hi, Option.bind_some, at_get (by omega), Option.bind_some, w64_succ (by omega), drop_cons hi, drop_cons (show i < b.length by omega)]
          by_cases hv : a[i] = b[i]
          · rw [if_neg (by simpa using hv), ih (i + 1) (by omega) (by omega)]
            have : (a[i] :: a.drop (i + 1) = b[i] :: b.drop (i + 1)) ↔ (a.drop (i + 1) = b.drop (i + 1)) := by rw [hv]; exact List.cons_inj_right _
            simp only [this]
          · rw [if_pos (by simpa using hv), if_neg (fun h => hv (List.cons.inj h).1)]
        · rw [if_neg (by rw [decide_eq_true_eq]; omega), List.drop_eq_nil_of_le (by omega), List.drop_eq_nil_of_le (by omega), if_pos rfl]
    have e := key F 0 (by omega) (by omega)
    rw [List.drop_zero, List.drop_zero] at e
    rw [if_neg (by rw [bne_iff_ne]; omega), show f12_p2 F a b F 0 = _ from e, Option.bind_some]
    by_cases hab : a = b
    · rw [if_pos hab, decide_eq_true hab]
    · rw [if_neg hab, decide_eq_false hab]
  · rw [if_pos (by rw [bne_iff_ne]; omega), decide_eq_false (fun h => hl (by rw [h]))]
theorem any_eq {l : List (List Int)} {v : List Int} (hl : l.length ≤ 100) (hs : ∀ x ∈ l, x.length ≤ 100) : f13 F l v = some (decide (v ∈ l)) := by
  have key : ∀ (k i : Nat), i ≤ l.length → l.length < k + i → ∃ z, f34_p1 F l v k i = some z ∧ ((v ∈ l.drop i ∧ ∃ j : Nat, z = .c0 (j : Int)) ∨ (v ∉ l.drop i ∧ z = .c1)) := by
    intro k
    induction k with
    | zero => intro i _ h; omega
    | succ k ih =>
      intro i h1 h2
      unfold f34_p1
      by_cases hi : i < l.length
      · unfold f11
        rw [if_pos (by rw [decide_eq_true_eq]; omega), at_get hi, Option.bind_some, same_eq hF (hs _ (List.getElem_mem hi)), Option.bind_some, Option.bind_some, w64_succ (by omega), drop_cons hi]
        by_cases hv : l[i] = v
        · rw [decide_eq_true hv, if_pos rfl]
          exact ⟨_, rfl, Or.inl ⟨by rw [hv]; exact List.mem_cons_self, i, rfl⟩⟩
        · rw [decide_eq_false hv, if_neg (by decide)]
          obtain ⟨z, e, h⟩ := ih (i + 1) (by omega) (by omega)
          refine ⟨z, e, ?_⟩
          rcases h with ⟨q1, q2⟩ | ⟨q1, q2⟩
          · exact Or.inl ⟨List.mem_cons_of_mem _ q1, q2⟩
          · refine Or.inr ⟨?_, q2⟩
            rw [List.mem_cons]
            rintro (h | h)
            · exact hv h.symm
            · exact q1 h
      · rw [if_neg (by rw [decide_eq_true_eq]; omega), List.drop_eq_nil_of_le (by omega)]
        exact ⟨_, rfl, Or.inr ⟨by simp, rfl⟩⟩
  obtain ⟨z, e, h⟩ := key F 0 (by omega) (by omega)
  rw [List.drop_zero] at h
  unfold f13 f34
  rw [show f34_p1 F l v F 0 = some z from e, Option.bind_some]
  rcases h with ⟨q1, j, rfl⟩ | ⟨q1, rfl⟩
  · dsimp only
    rw [Option.bind_some, decide_eq_true q1, decide_eq_true (by omega)]
  · dsimp only
    rw [Option.bind_some, decide_eq_false q1]; rfl
end
end
section
section
variable {F n : Nat} {w : List Nat} (T : Tb F) (h1 : 1 ≤ n) (h4 : n ≤ 4) (hw : Code n w)
include T h1 h4 hw
theorem open_eq : f30 F n (w.map bt) = some (cst w, 0) := by
  have hlen := hw.len h4
  have hF := T.big
  have key : ∀ (k i : Nat), i ≤ w.length → w.length < k + i → f30_p2 F (w.map bt) n k i (cst (w.take i)) = some (.c1 (cst w)) := by
    intro k
    induction k with
    | zero => intro i _ h; omega
    | succ k ih =>
      intro i g1 g2
      unfold f30_p2
      have hm : (w.map bt).length = w.length := List.length_map ..
      by_cases hi : i < w.length
      · have hx := hw.lt _ (List.getElem_mem hi)
        have e1 : at? (w.map bt) (i : Int) = some (bt w[i]) := at_of (by rw [List.getElem?_map, List.getElem?_eq_getElem hi]; rfl)
        have hnew : ((w[i] : Nat) : Int) ∉ cst (w.take i) := by
          rw [cst_mem]
          intro hmem
          have hp := hw.up
          rw [← List.take_append_drop i w, List.pairwise_append] at hp
          have := hp.2.2 _ hmem w[i] (by rw [drop_cons hi]; exact List.mem_cons_self)
          omega
        have hl : (cst (w.take i)).length ≤ 100 := by rw [cst_len, List.length_take]; omega
        have e2 : cst (w.take i) ++ [((w[i] : Nat) : Int)] = cst (w.take (i + 1)) := by
          rw [List.take_succ_eq_append_getElem hi, cst_app]; rfl
        rw [if_pos (by rw [decide_eq_true_eq]; omega), e1, Option.bind_some, T.one n _ h1 h4 hx, Option.bind_some]
        dsimp only
        rw [if_neg (by decide), take0, has_eq hF hl, Option.bind_some, decide_eq_false hnew, if_neg (by decide), req_pos (by simp; omega), w64_succ (by omega), e2]
        exact ih (i + 1) (by omega) (by omega)
      · rw [if_neg (by rw [decide_eq_true_eq]; omega), List.take_of_length_le (by omega)]
  have e := key F 0 (by omega) (by omega)
  unfold f30 f54
  rw [if_pos (by rw [decide_eq_true_eq]; omega), Option.bind_some, if_pos (by rw [decide_eq_true_eq]; omega), show f30_p2 F (w.map bt) n F 0 [] = _ from e, Option.bind_some]
  dsimp only
  rw [take0]
structure Got (n : Nat) (P : Nat → Prop) (r : List Nat) : Prop where
  nd : r.Nodup
  lt : ∀ m ∈ r, m < 2 ^ n
  is : ∀ m, m ∈ r ↔ P m
omit hw in
theorem nbr_in {up : Bool} {x : Nat} (hx : x < 2 ^ n) {x2 : List Int} {x14 : Int} {P : Nat → Prop} : ∀ (k j : Nat) (r : List Nat), j ≤ n → n < k + j → Got n (fun m => P m ∨ ∃ i, i < j ∧ m = x ^^^ 2 ^ i ∧ decide (x < m) = up) r →
    ∃ r', f32_p5_1 F n up x x2 x14 k j (cst r) = some (cst r') ∧ Got n (fun m => P m ∨ ∃ i, i < n ∧ m = x ^^^ 2 ^ i ∧ decide (x < m) = up) r' := by
  have hF := T.big
  have hp4 := pow_le h4
  intro k
  induction k with
  | zero => intro j r _ h; omega
  | succ k ih =>
    intro j r g1 g2 hr
    unfold f32_p5_1
    by_cases hj : j < n
    · have hj2 := Nat.lt_of_lt_of_le hj (Nat.le_of_lt (sh h4).2)
      obtain ⟨e1, _, e3⟩ := (ar h4 hx hj2).nbr hj
      have hl := nodup_len _ _ hr.nd hr.lt
      rw [if_pos (by rw [decide_eq_true_eq]; omega), req_pos (by omega), e1, w64_succ (by omega)]
      have ed : decide (((x ^^^ 2 ^ j : Nat) : Int) > (x : Int)) = decide (x < x ^^^ 2 ^ j) := by
        rw [decide_eq_decide]; omega
      rw [ed]
      by_cases hu : decide (x < x ^^^ 2 ^ j) = up
      · rw [if_pos (by rw [hu]; simp), take0, has_eq hF (by rw [cst_len]; omega), Option.bind_some]
        unfold f32_p8_2
        rw [e1]
        by_cases hm : x ^^^ 2 ^ j ∈ r
        · rw [decide_eq_true (cst_mem.2 hm), if_pos rfl, Option.bind_some]
          refine ih (j + 1) r (by omega) (by omega) ⟨hr.nd, hr.lt, fun m => ?_⟩
          rw [hr.is m]
          constructor
          · rintro (h | ⟨i, i1, i2, i3⟩)
            · exact Or.inl h
            · exact Or.inr ⟨i, by omega, i2, i3⟩
          · rintro (h | ⟨i, i1, i2, i3⟩)
            · exact Or.inl h
            · by_cases he : i = j
              · subst he; subst i2; exact (hr.is _).1 hm
              · exact Or.inr ⟨i, by omega, i2, i3⟩
        · rw [decide_eq_false (fun h => hm (cst_mem.1 h)), if_neg (by decide), req_pos (by rw [cst_len]; simp; omega), Option.bind_some]
          have e2 : cst r ++ [((x ^^^ 2 ^ j : Nat) : Int)] = cst (r ++ [x ^^^ 2 ^ j]) := by rw [cst_app]; rfl
          rw [e2]
          refine ih (j + 1) _ (by omega) (by omega) ⟨?_, fun m hm' => ?_, fun m => ?_⟩
          · rw [List.nodup_append]
            refine ⟨hr.nd, by simp, fun a ha b hb => ?_⟩
            rw [List.mem_singleton] at hb
            rintro rfl
            exact hm (hb ▸ ha)
          · rcases List.mem_append.1 hm' with h | h
            · exact hr.lt m h
            · rw [List.mem_singleton.1 h]; exact e3
          · rw [List.mem_append, List.mem_singleton, hr.is m]
            constructor
            · rintro ((h | ⟨i, i1, i2, i3⟩) | h)
              · exact Or.inl h
              · exact Or.inr ⟨i, by omega, i2, i3⟩
              · exact Or.inr ⟨j, by omega, h, by rw [h]; exact hu⟩
            · rintro (h | ⟨i, i1, i2, i3⟩)
              · exact Or.inl (Or.inl h)
              · by_cases he : i = j
                · subst he; exact Or.inr i2
                · exact Or.inl (Or.inr ⟨i, by omega, i2, i3⟩)
      · rw [if_neg (by rw [beq_iff_eq]; exact hu)]
        refine ih (j + 1) r (by omega) (by omega) ⟨hr.nd, hr.lt, fun m => ?_⟩
        rw [hr.is m]
        constructor
        · rintro (h | ⟨i, i1, i2, i3⟩)
          · exact Or.inl h
          · exact Or.inr ⟨i, by omega, i2, i3⟩
        · rintro (h | ⟨i, i1, i2, i3⟩)
          · exact Or.inl h
          · by_cases he : i = j
            · subst he; subst i2; exact absurd i3 hu
            · exact Or.inr ⟨i, by omega, i2, i3⟩
    · rw [if_neg (by rw [decide_eq_true_eq]; omega)]
      have : j = n := by omega
      subst this
      exact ⟨r, rfl, hr⟩
theorem nbr_eq (up : Bool) : ∃ r, f32 F n (cst w) up = some (cst r) ∧ Got n (fun m => ∃ x ∈ w, ∃ i, i < n ∧ m = x ^^^ 2 ^ i ∧ decide (x < m) = up) r := by
  have hF := T.big
  have hlen := hw.len h4
  have key : ∀ (k i : Nat) (r : List Nat), i ≤ w.length → w.length < k + i → Got n (fun m => ∃ x ∈ w.take i, ∃ i, i < n ∧ m = x ^^^ 2 ^ i ∧ decide (x < m) = up) r →
      ∃ r', f32_p1 F n up (cst w) k i (cst r) = some (cst r') ∧ Got n (fun m => ∃ x ∈ w, ∃ i, i < n ∧ m = x ^^^ 2 ^ i ∧ decide (x < m) = up) r' := by
    intro k
    induction k with
    | zero => intro i r _ h; omega
    | succ k ih =>
      intro i r g1 g2 hr
      unfold f32_p1
      by_cases hi : i < w.length
      · have hx := hw.lt _ (List.getElem_mem hi)
        obtain ⟨r', e, hr'⟩ := nbr_in T h1 h4 (up := up) hx (x2 := cst w) (x14 := (i : Int)) F 0 r (by omega) (by omega) (P := fun m => ∃ x ∈ w.take i, ∃ i, i < n ∧ m = x ^^^ 2 ^ i ∧ decide (x < m) = up) ⟨hr.nd, hr.lt, fun m => by rw [hr.is m]; simp⟩
        rw [if_pos (by rw [cst_len, decide_eq_true_eq]; omega), cst_at hi, Option.bind_some, show f32_p5_1 F n up ((w[i] : Nat) : Int) (cst w) i F 0 (cst r) = _ from e, Option.bind_some, w64_succ (by omega)]
        refine ih (i + 1) r' (by omega) (by omega) ⟨hr'.nd, hr'.lt, fun m => ?_⟩
        rw [hr'.is m, List.take_succ_eq_append_getElem hi]
        simp only [List.mem_append, List.mem_singleton]
        constructor
        · rintro (⟨x, x1, x2⟩ | h)
          · exact ⟨x, Or.inl x1, x2⟩
          · exact ⟨_, Or.inr rfl, h⟩
        · rintro ⟨x, x1 | rfl, x2⟩
          · exact Or.inl ⟨x, x1, x2⟩
          · exact Or.inr x2
      · rw [if_neg (by rw [cst_len, decide_eq_true_eq]; omega)]
        rw [List.take_of_length_le (by omega)] at hr
        exact ⟨r, rfl, hr⟩
  obtain ⟨r, e, hr⟩ := key F 0 [] (by omega) (by omega) ⟨List.nodup_nil, fun m h => by simp at h, fun m => by simp⟩
  refine ⟨r, ?_, hr⟩
  unfold f32
  rw [show f32_p1 F n up (cst w) F 0 [] = _ from e, Option.bind_some, take0]
omit h1 hw
theorem lists_eq {r : List Nat} (hd : r.Nodup) (hlt : ∀ m ∈ r, m < 2 ^ n) : ∃ l, f31 F (cst r) = some l ∧ l.Perm (r.map bt) := by
  have hF := T.big
  have hp4 := pow_le h4
  have hl := nodup_len _ _ hd hlt
  have key : ∀ (k i : Nat), i ≤ r.length → r.length < k + i → f57_p1 F (cst r) k i ((r.take i).map bt) = some (r.map bt) := by
    intro k
    induction k with
    | zero => intro i _ h; omega
    | succ k ih =>
      intro i g1 g2
      unfold f57_p1
      by_cases hi : i < r.length
      · have hx := hlt _ (List.getElem_mem hi)
        have e2 : (r.take i).map bt ++ [bt r[i]] = (r.take (i + 1)).map bt := by
          rw [List.take_succ_eq_append_getElem hi, List.map_append]; rfl
        rw [if_pos (by rw [cst_len, decide_eq_true_eq]; omega), cst_at hi, Option.bind_some, T.list _ (by omega), Option.bind_some, req_pos (by simp; omega), w64_succ (by omega), e2]
        exact ih (i + 1) (by omega) (by omega)
      · rw [if_neg (by rw [cst_len, decide_eq_true_eq]; omega), List.take_of_length_le (by omega)]
  have e := key F 0 (by omega) (by omega)
  obtain ⟨l, e2, p⟩ := sorted hF T.pow T.lim (l := r.map bt) (by rw [List.length_map]; omega) (fun x hx => by
    obtain ⟨y, _, rfl⟩ := List.mem_map.1 hx
    have := bt_small y
    omega)
  have hll := p.length_eq
  unfold f31 f57
  rw [show f57_p1 F (cst r) F 0 [] = _ from e, Option.bind_some, Option.bind_some, e2, Option.bind_some, req_pos (by omega), ← hll, take0]
  exact ⟨l, rfl, p⟩
include h1 hw
theorem near_lists (up : Bool) : ∃ l, (if up = true then f8 F n (w.map bt) else f7 F n (w.map bt)) = some (l, 0) ∧ l.length ≤ 16 ∧ (∀ x ∈ l, x.length ≤ 100) ∧ ∀ i, i < 2 ^ n → (bt i ∈ l ↔ ∃ x ∈ w, ∃ k, k < n ∧ i = x ^^^ 2 ^ k ∧ decide (x < i) = up) := by
  obtain ⟨r, e1, hr⟩ := nbr_eq T h1 h4 hw up
  obtain ⟨l, e2, p⟩ := lists_eq T h4 hr.nd hr.lt
  have hl := nodup_len _ _ hr.nd hr.lt
  have hp4 := pow_le h4
  refine ⟨l, ?_, by rw [p.length_eq, List.length_map]; omega, fun x hx => ?_, fun i hi => ?_⟩
  · cases up with
    | true =>
      rw [if_pos rfl]
      unfold f8
      rw [open_eq T h1 h4 hw, Option.bind_some]
      dsimp only
      rw [if_neg (by decide), e1, Option.bind_some, e2, Option.bind_some]
    | false =>
      rw [if_neg (by decide)]
      unfold f7
      rw [open_eq T h1 h4 hw, Option.bind_some]
      dsimp only
      rw [if_neg (by decide), e1, Option.bind_some, e2, Option.bind_some]
  · obtain ⟨y, _, rfl⟩ := List.mem_map.1 (p.mem_iff.1 hx)
    have := bt_small y
    omega
  · rw [p.mem_iff, List.mem_map, ← hr.is i]
    constructor
    · rintro ⟨m, m1, m2⟩
      have := (ar h4 (hr.lt m m1) hi).inj m2
      rwa [← this]
    · intro h
      exact ⟨i, h, rfl⟩
end
end
section
def tab (N : Nat) (g : Nat → Int) : List Int := (List.range N).map g
theorem tab_len (N : Nat) (g : Nat → Int) : (tab N g).length = N := by simp [tab]
theorem tab_get {N i : Nat} (g : Nat → Int) (h : i < N) : (tab N g)[i]? = some (g i) := by
  unfold tab
  rw [List.getElem?_map, List.getElem?_range h]; rfl
theorem tab_at {N i : Nat} (g : Nat → Int) (h : i < N) : at? (tab N g) (i : Int) = some (g i) := at_of (tab_get g h)
theorem tab_congr {N : Nat} {g h : Nat → Int} (e : ∀ y, y < N → g y = h y) : tab N g = tab N h :=
  List.map_congr_left fun y hy => e y (List.mem_range.1 hy)
theorem tab_set {N i : Nat} (g : Nat → Int) (v : Int) : (tab N g).set i v = tab N (fun y => if y = i then v else g y) := by
  apply List.ext_getElem?
  intro k
  by_cases hk : k < N
  · rw [tab_get _ hk, List.getElem?_set, tab_len]
    by_cases h : i = k
    · subst h; simp [hk]
    · rw [if_neg h, tab_get _ hk, if_neg (fun e => h e.symm)]
  · rw [List.getElem?_eq_none (by simp [tab_len]; omega), List.getElem?_eq_none (by simp [tab_len]; omega)]
theorem tab_zero (N : Nat) : List.replicate N (0 : Int) = tab N (fun _ => 0) := by
  apply List.ext_getElem?
  intro k
  by_cases hk : k < N
  · rw [tab_get _ hk, List.getElem?_replicate, if_pos hk]
  · rw [List.getElem?_eq_none (by simp; omega), List.getElem?_eq_none (by simp [tab_len]; omega)]
theorem take_tab (N : Nat) (g : Nat → Int) : List.drop 0 (List.take (0 + N) (tab N g)) = tab N g := by
  rw [List.drop_zero, Nat.zero_add, List.take_of_length_le (by rw [tab_len]; exact Nat.le_refl _)]
def cnt (n i : Nat) : List Nat → Int
  | [] => 0
  | x :: s => sN x i n + cnt n i s
theorem sN_bd (x i : Nat) : ∀ j, 0 ≤ sN x i j ∧ sN x i j ≤ j + 1
  | 0 => by unfold sN; split <;> omega
  | j + 1 => by
    have := sN_bd x i j
    unfold sN nb
    split <;> omega
theorem cnt_bd (n i : Nat) : ∀ w : List Nat, 0 ≤ cnt n i w ∧ cnt n i w ≤ (n + 1) * w.length
  | [] => by simp [cnt]
  | x :: s => by
    have h1 := sN_bd x i n
    have h2 := cnt_bd n i s
    simp only [cnt, List.length_cons]
    have : ((n : Int) + 1) * ((s.length + 1 : Nat) : Int) = (n + 1) * s.length + (n + 1) := by
      rw [Int.natCast_add, Int.mul_add]; simp
    omega
section
variable {F n : Nat} (hF : 200 ≤ F) (h4 : n ≤ 4)
include hF h4
theorem meet_in {x : Nat} (hx : x < 2 ^ n) {x2 : List Int} {x16 : Int} {g : Nat → Int} (hg : ∀ i, 0 ≤ g i ∧ g i ≤ 1000) : ∀ (k j : Nat), j ≤ n → n < k + j →
    f33_p9_1 F n x x2 x16 k j (tab (2 ^ n) fun i => g i + sN x i j) = some (tab (2 ^ n) fun i => g i + sN x i n) := by
  have _ := hF
  have hp4 := pow_le h4
  obtain ⟨s1, s2⟩ := sh h4
  intro k
  induction k with
  | zero => intro j _ h; omega
  | succ k ih =>
    intro j g1 g2
    unfold f33_p9_1
    by_cases hj : j < n
    · obtain ⟨_, e2, e3⟩ := (ar h4 hx (show j < 2 ^ n by omega)).nbr hj
      have b1 := hg (x ^^^ 2 ^ j)
      have b2 := sN_bd x (x ^^^ 2 ^ j) j
      rw [if_pos (by rw [decide_eq_true_eq]; omega), req_pos (by omega), e2, s1, Int.toNat_natCast, req_pos (by omega), Int.toNat_natCast, Nat.zero_add, tab_get _ e3, Option.bind_some, req_pos (by rw [tab_len]; omega), tab_set, w64_succ (by omega)]
      rw [w64_in (n := g (x ^^^ 2 ^ j) + sN x (x ^^^ 2 ^ j) j + 1) (by omega)]
      have e4 : (tab (2 ^ n) fun y => if y = x ^^^ 2 ^ j then g (x ^^^ 2 ^ j) + sN x (x ^^^ 2 ^ j) j + 1 else g y + sN x y j) = tab (2 ^ n) fun i => g i + sN x i (j + 1) := by
        refine tab_congr fun y _ => ?_
        show _ = g y + (sN x y j + nb x j y)
        unfold nb
        by_cases he : y = x ^^^ 2 ^ j
        · rw [if_pos he, if_pos he.symm, he]; omega
        · rw [if_neg he, if_neg (fun h => he h.symm)]; omega
      rw [e4]
      exact ih (j + 1) (by omega) (by omega)
    · rw [if_neg (by rw [decide_eq_true_eq]; omega), show j = n by omega]
variable (h1 : 1 ≤ n) {w : List Nat} (hw : Code n w)
include h1 hw
theorem times_eq : f33 F n (cst w) = some (tab (2 ^ n) (fun i => cnt n i w), 0) := by
  have hp4 := pow_le h4
  have hlen := hw.len h4
  obtain ⟨s1, s2⟩ := sh h4
  have key : ∀ (k m : Nat) (p : Int) (g : Nat → Int), m ≤ w.length → w.length < k + m → (∀ x ∈ w.drop m, p < (x : Nat)) → (∀ i, 0 ≤ g i ∧ g i ≤ 6 * m) →
      f33_p2 F n (cst w) k p m (tab (2 ^ n) g) = some (.c1 (tab (2 ^ n) fun i => g i + cnt n i (w.drop m))) := by
    intro k
    induction k with
    | zero => intro m p g _ h; omega
    | succ k ih =>
      intro m p g g1 g2 g3 g4
      unfold f33_p2
      rw [s1, Int.toNat_natCast]
      by_cases hm : m < w.length
      · have hx := hw.lt _ (List.getElem_mem hm)
        have hpx := g3 w[m] (by rw [drop_cons hm]; exact List.mem_cons_self)
        have b1 := g4 w[m]
        rw [if_pos (by rw [cst_len, decide_eq_true_eq]; omega), cst_at hm, Option.bind_some, if_neg (by rw [decide_eq_true_eq]; omega), if_neg (by rw [decide_eq_true_eq]; omega), if_neg (by rw [decide_eq_true_eq]; omega), req_pos (by omega), Int.toNat_natCast, Nat.zero_add, tab_get _ hx, Option.bind_some, req_pos (by rw [tab_len]; omega), tab_set, w64_in (n := g w[m] + 1) (by omega)]
        have e4 : (tab (2 ^ n) fun y => if y = w[m] then g w[m] + 1 else g y) = tab (2 ^ n) fun i => g i + sN w[m] i 0 := by
          refine tab_congr fun y _ => ?_
          unfold sN
          by_cases he : y = w[m]
          · rw [if_pos he, if_pos he.symm, he]
          · rw [if_neg he, if_neg (fun h => he h.symm)]; omega
        rw [e4, show f33_p9_1 F n ((w[m] : Nat) : Int) (cst w) m F 0 _ = _ from meet_in hF h4 hx (x2 := cst w) (x16 := (m : Int)) (fun i => by have := g4 i; omega) F 0 (by omega) (by omega), Option.bind_some, w64_succ (by omega)]
        rw [ih (m + 1) (w[m] : Nat) _ (by omega) (by omega) (fun x hx2 => by
          have hp := hw.up
          rw [← List.take_append_drop m w, List.pairwise_append, drop_cons hm] at hp
          have := (List.pairwise_cons.1 hp.2.1).1 x hx2
          omega) (fun i => by have := g4 i; have := sN_bd w[m] i n; omega), drop_cons hm]
        exact congrArg (fun t => some (f33_p2_R.c1 t)) (tab_congr fun y _ => by simp only [cnt]; omega)
      · rw [if_neg (by rw [cst_len, decide_eq_true_eq]; omega), List.drop_eq_nil_of_le (by omega)]
        exact congrArg (fun t => some (f33_p2_R.c1 t)) (tab_congr fun y _ => by simp only [cnt]; omega)
  have e := key F 0 (-1) (fun _ => 0) (by omega) (by omega) (fun x _ => by omega) (fun i => by omega)
  rw [← tab_zero, List.drop_zero] at e
  unfold f33 f28
  rw [if_pos (by rw [decide_eq_true_eq]; omega), Option.bind_some, if_pos (by rw [decide_eq_true_eq]; omega), req_pos (by omega), s1, req_pos ⟨Int.natCast_nonneg _, Int.le_refl _, by omega⟩, Int.toNat_natCast, show f33_p2 F n (cst w) F (-1) 0 (List.replicate (2 ^ n) 0) = _ from e, Option.bind_some]
  dsimp only
  rw [req_pos (by rw [tab_len]; omega), take_tab]
  exact congrArg (fun t => some (t, (0 : Int))) (tab_congr fun y _ => by omega)
theorem f9_eq : f9 F n (cst w) = some (tab (2 ^ n) (fun i => cnt n i w), 0) := by
  unfold f9
  rw [times_eq hF h4 h1 hw]; rfl
def bare (n : Nat) (w : List Nat) (m : Nat) : List Nat := (List.range m).filter fun i => decide (cnt n i w = 0)
theorem f10_eq : f10 F n (cst w) = some (cst (bare n w (2 ^ n)), 0) := by
  have hp4 := pow_le h4
  have key : ∀ (k m : Nat), m ≤ 2 ^ n → 2 ^ n < k + m → f10_p2 F (tab (2 ^ n) (fun i => cnt n i w)) k m (cst (bare n w m)) = some (cst (bare n w (2 ^ n))) := by
    intro k
    induction k with
    | zero => intro m _ h; omega
    | succ k ih =>
      intro m g1 g2
      unfold f10_p2
      rw [tab_len]
      by_cases hm : m < 2 ^ n
      · have hb : (bare n w m).length ≤ m := Nat.le_trans (List.length_filter_le _ _) (by simp)
        have e2 : bare n w (m + 1) = if cnt n m w = 0 then bare n w m ++ [m] else bare n w m := by
          unfold bare
          rw [List.range_succ, List.filter_append]
          by_cases hc : cnt n m w = 0
          · rw [if_pos hc]; simp [hc]
          · rw [if_neg hc]; simp [hc]
        have e3 : f10_p5_1 F (cst (bare n w m)) m (tab (2 ^ n) (fun i => cnt n i w)) (cnt n m w) = some (cst (bare n w (m + 1))) := by
          unfold f10_p5_1
          rw [e2]
          by_cases hc : cnt n m w = 0
          · rw [if_pos (by simpa using hc), if_pos hc, req_pos (by rw [cst_len]; simp; omega), cst_app]; rfl
          · rw [if_neg (by simpa using hc), if_neg hc]
        rw [if_pos (by rw [decide_eq_true_eq]; omega), tab_at _ hm, Option.bind_some, e3, Option.bind_some, w64_succ (by omega)]
        exact ih (m + 1) (by omega) (by omega)
      · rw [if_neg (by rw [decide_eq_true_eq]; omega), show m = 2 ^ n by omega]
  have e := key F 0 (Nat.zero_le _) (by omega)
  have hb : (bare n w (2 ^ n)).length ≤ 2 ^ n := Nat.le_trans (List.length_filter_le _ _) (by simp)
  unfold f10
  rw [times_eq hF h4 h1 hw, Option.bind_some]
  dsimp only
  rw [if_neg (by decide), show f10_p2 F (tab (2 ^ n) (fun i => cnt n i w)) F 0 [] = _ from e, Option.bind_some, take0]
omit h1
theorem count_eq {i : Nat} (hi : i < 2 ^ n) {a1 a20 : Int} {a4 a26 a28 a3 : List Int} {a22 a24 a21 : List (List Int)} {z : Bool} {a6 : Int} : f3_p16 F a1 a4 (cst w) a22 a24 a26 a28 i z a3 a6 a20 a21 F 0 0 = some (cnt n i w) := by
  have hp4 := pow_le h4
  have hlen := hw.len h4
  have key : ∀ (k m : Nat) (c : Int), m ≤ w.length → w.length < k + m → 0 ≤ c → c ≤ m → f3_p16 F a1 a4 (cst w) a22 a24 a26 a28 i z a3 a6 a20 a21 k c m = some (c + cnt n i (w.drop m)) := by
    intro k
    induction k with
    | zero => intro m c _ h; omega
    | succ k ih =>
      intro m c g1 g2 g3 g5
      unfold f3_p16
      by_cases hm : m < w.length
      · have hA := ar h4 (hw.lt _ (List.getElem_mem hm)) hi
        have e3 : ∀ m2 : Int, f3_p19 F a1 a4 (cst w) a22 a24 a26 a28 i z c a3 a6 m2 ((w[m] : Nat) : Int) a20 a21 = some (c + sN w[m] i n) := by
          intro m2
          unfold f3_p19
          rw [hA.pw, hA.cnt]
          by_cases hh : near n w[m] i = true
          · rw [if_pos hh, if_pos hh, w64_in (by omega)]
          · rw [if_neg hh, if_neg hh]; simp
        have hsb : 0 ≤ sN w[m] i n ∧ sN w[m] i n ≤ 1 := by rw [hA.cnt]; split <;> omega
        rw [if_pos (by rw [cst_len, decide_eq_true_eq]; omega), cst_at hm, Option.bind_some, e3, Option.bind_some, w64_succ (by omega), ih (m + 1) _ (by omega) (by omega) (by omega) (by omega), drop_cons hm]
        simp only [cnt]
        rw [Int.add_assoc]
      · rw [if_neg (by rw [cst_len, decide_eq_true_eq]; omega), List.drop_eq_nil_of_le (by omega)]
        simp [cnt]
  have e := key F 0 0 (by omega) (by omega) (by omega) (by omega)
  rw [List.drop_zero] at e
  rw [show f3_p16 F a1 a4 (cst w) a22 a24 a26 a28 i z a3 a6 a20 a21 F 0 0 = _ from e]
  simp
omit hF
theorem cnt_pos {i : Nat} (hi : i < 2 ^ n) : 0 < cnt n i w ↔ ∃ x ∈ w, near n x i = true := by
  have key : ∀ s : List Nat, (∀ x ∈ s, x < 2 ^ n) → (0 < cnt n i s ↔ ∃ x ∈ s, near n x i = true) := by
    intro s
    induction s with
    | nil => intro _; simp [cnt]
    | cons x s ih =>
      intro hs
      have hA := ar h4 (hs x (by simp)) hi
      have ih := ih fun y hy => hs y (by simp [hy])
      have hb := (cnt_bd n i s).1
      simp only [cnt, List.mem_cons]
      rw [hA.cnt]
      by_cases hh : near n x i = true
      · rw [if_pos hh]
        exact ⟨fun _ => ⟨x, Or.inl rfl, hh⟩, fun _ => by omega⟩
      · rw [if_neg hh, Int.zero_add, ih]
        constructor
        · rintro ⟨y, y1, y2⟩; exact ⟨y, Or.inr y1, y2⟩
        · rintro ⟨y, rfl | y1, y2⟩
          · exact absurd y2 hh
          · exact ⟨y, y1, y2⟩
  exact key w hw.lt
end
end
section
def FF : Nat := 2000
end

end Go.Gh.Tz
