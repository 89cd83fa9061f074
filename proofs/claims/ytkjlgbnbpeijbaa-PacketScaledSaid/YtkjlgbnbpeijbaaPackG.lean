/- Packet: the best filling: a window that moves. -/
import Derived.Test.YtkjlgbnbpeijbaaPackW
namespace Go.Gh.Pack
set_option linter.unusedVariables false
set_option linter.unusedSimpArgs false

/-- The fewest packets with at most c of size s, what g tells of the rest; and with how few of s. -/
def mv (s : Nat) (g : Nat → Int) : Nat → Nat → Int
  | 0, x => g x
  | c + 1, x => if (c + 1) * s ≤ x ∧ g (x - (c + 1) * s) + ((c + 1 : Nat) : Int) < mv s g c x then g (x - (c + 1) * s) + ((c + 1 : Nat) : Int) else mv s g c x
def ma (s : Nat) (g : Nat → Int) : Nat → Nat → Nat
  | 0, _ => 0
  | c + 1, x => if (c + 1) * s ≤ x ∧ g (x - (c + 1) * s) + ((c + 1 : Nat) : Int) < mv s g c x then c + 1 else ma s g c x

/-- m is the first best number. -/
structure Fst (s : Nat) (g : Nat → Int) (c x m : Nat) : Prop where
  le : m ≤ c
  fit : m * s ≤ x
  best : ∀ j, j ≤ c → j * s ≤ x → g (x - m * s) + m ≤ g (x - j * s) + j
  first : ∀ j, j < m → j * s ≤ x → g (x - m * s) + m < g (x - j * s) + j

theorem ma_fst {s : Nat} {g : Nat → Int} (x : Nat) : ∀ c, Fst s g c x (ma s g c x) ∧ mv s g c x = g (x - ma s g c x * s) + (ma s g c x : Nat)
  | 0 => by
    refine ⟨⟨by simp [ma], by simp [ma], fun j h _ => ?_, fun j h => by simp [ma] at h⟩, by simp [ma, mv]⟩
    have : j = 0 := by omega
    subst this; simp [ma]
  | c + 1 => by
    obtain ⟨h1, h2⟩ := ma_fst (s := s) (g := g) x c
    have d1 : mv s g (c + 1) x = if (c + 1) * s ≤ x ∧ g (x - (c + 1) * s) + ((c + 1 : Nat) : Int) < mv s g c x then g (x - (c + 1) * s) + ((c + 1 : Nat) : Int) else mv s g c x := rfl
    have d2 : ma s g (c + 1) x = if (c + 1) * s ≤ x ∧ g (x - (c + 1) * s) + ((c + 1 : Nat) : Int) < mv s g c x then c + 1 else ma s g c x := rfl
    rw [d1, d2]
    by_cases h : (c + 1) * s ≤ x ∧ g (x - (c + 1) * s) + ((c + 1 : Nat) : Int) < mv s g c x
    · rw [if_pos h, if_pos h]
      refine ⟨⟨Nat.le_refl _, h.1, fun j hj hx => ?_, fun j hj hx => ?_⟩, rfl⟩
      · by_cases e : j = c + 1
        · subst e; exact Int.le_refl _
        · have := h1.best j (by omega) hx
          omega
      · have := h1.best j (by omega) hx
        omega
    · rw [if_neg h, if_neg h]
      refine ⟨⟨Nat.le_succ_of_le h1.le, h1.fit, fun j hj hx => ?_, h1.first⟩, h2⟩
      by_cases e : j = c + 1
      · subst e
        have : ¬ g (x - (c + 1) * s) + ((c + 1 : Nat) : Int) < mv s g c x := fun hh => h ⟨hx, hh⟩
        omega
      · exact h1.best j (by omega) hx
theorem Fst.uniq {s : Nat} {g : Nat → Int} {c x m : Nat} (h : Fst s g c x m) : ma s g c x = m ∧ mv s g c x = g (x - m * s) + (m : Nat) := by
  obtain ⟨k, e⟩ := ma_fst (s := s) (g := g) x c
  have : ma s g c x = m := by
    rcases Nat.lt_trichotomy (ma s g c x) m with hlt | he | hlt
    · have := h.first _ hlt k.fit
      have := k.best m h.le h.fit
      omega
    · exact he
    · have := k.first _ hlt h.fit
      have := h.best _ k.le k.fit
      omega
  rw [this] at e
  exact ⟨this, e⟩

def cst (w : List Nat) : List Int := w.map fun (i : Nat) => (i : Int)
theorem cst_len (w : List Nat) : (cst w).length = w.length := by simp [cst]
theorem cst_app (u v : List Nat) : cst (u ++ v) = cst u ++ cst v := by simp [cst]

section
variable {F n : Nat} {a b : List Int} {g : Nat → Int} {s r most : Nat} {p : Int} {C : List (List Int)}

theorem f89_eq (hn : n ≤ 1000) (hg : ∀ y, 0 ≤ g y ∧ g y ≤ 1001) {i j : Nat} (hi : r + i * s ≤ n) (hi2 : i ≤ 1000) (hj : j ≤ 1000) : f89_1 F i (tab (n + 1) g) s r j = some (g (r + i * s) + j - i) := by
  unfold f89_1
  have e : (i : Int) * s = ((i * s : Nat) : Int) := (Int.natCast_mul ..).symm
  have := hg (r + i * s)
  rw [e, w64_in (n := ((i * s : Nat) : Int)) (by omega), show w64 ((r : Int) + ((i * s : Nat) : Int)) = ((r + i * s : Nat) : Int) by rw [w64_in (by omega)]; omega, tab_at _ (by omega), Option.bind_some, w64_in (n := g (r + i * s) + j) (by omega), w64_in (by omega)]

theorem pop_eq (hn : n ≤ 1000) (hg : ∀ y, 0 ≤ g y ∧ g y ≤ 1001) {x179 x180 : List Int} {j : Nat} (hj : r + j * s ≤ n) (hj2 : j ≤ 1000) : ∀ (k : Nat) (w : List Nat), w.length < k → w.length ≤ 1001 → (∀ i ∈ w, r + i * s ≤ n ∧ i ≤ 1000) →
    ∃ u v, w = u ++ v ∧ f65_p17_17 F n a p most s r b (tab (n + 1) g) C x179 x180 j k (cst w) = some (cst u) ∧ (∀ i ∈ v, g (r + j * s) - j ≤ g (r + i * s) - i) ∧ (∀ i, u.getLast? = some i → g (r + i * s) - i < g (r + j * s) - j) := by
  intro k
  induction k with
  | zero => intro w h; omega
  | succ k ih =>
    intro w h1 hw1 h2
    rcases List.eq_nil_or_concat w with rfl | ⟨w', x, rfl⟩
    · refine ⟨[], [], rfl, ?_, by simp, by simp⟩
      unfold f65_p17_17
      rw [if_neg (by simp [cst])]
    · rw [List.concat_eq_append] at h1 h2 hw1 ⊢
      have hx := h2 x (by simp)
      have hlen : (cst (w' ++ [x])).length = w'.length + 1 := by simp [cst_len]
      simp only [List.length_append, List.length_singleton] at h1 hw1
      have e1 : w64 (((w'.length + 1 : Nat) : Int) - 1) = ((w'.length : Nat) : Int) := by rw [w64_in (by omega)]; omega
      have e2 : (cst (w' ++ [x]))[0 + w'.length]? = some (x : Int) := by
        rw [cst_app, Nat.zero_add, List.getElem?_append_right (by rw [cst_len]; exact Nat.le_refl _), cst_len, Nat.sub_self]; rfl
      have e3 : List.drop 0 (List.take w'.length (cst (w' ++ [x]))) = cst w' := by
        rw [List.drop_zero, cst_app, List.take_append_of_le_length (by rw [cst_len]; exact Nat.le_refl _), List.take_of_length_le (by rw [cst_len]; exact Nat.le_refl _)]
      unfold f65_p17_17
      rw [hlen, if_pos (decide_eq_true (by omega)), e1, req_pos (by omega), Int.toNat_natCast, e2, Option.bind_some, f89_eq hn hg hx.1 hx.2 hj2, Option.bind_some, f89_eq hn hg hj hj2 hj2, Option.bind_some]
      by_cases hc : g (r + x * s) + j - x ≥ g (r + j * s) + j - j
      · rw [if_pos (by simpa using hc), req_pos (by omega), req_pos (by simp), e3]
        obtain ⟨u, v, rfl, r1, r2, r3⟩ := ih w' (by omega) (by omega) fun i hi => h2 i (by simp [hi])
        refine ⟨u, v ++ [x], by simp, r1, fun i hi => ?_, r3⟩
        rcases List.mem_append.1 hi with hi | hi
        · exact r2 i hi
        · rw [List.mem_singleton] at hi
          subst hi; omega
      · rw [if_neg (by simpa using hc)]
        refine ⟨w' ++ [x], [], by simp, rfl, by simp, fun i hi => ?_⟩
        simp only [List.getLast?_append, List.getLast?_singleton, Option.some_or] at hi
        cases hi
        omega

/-- The window, ahead of number j. -/
structure Win (g : Nat → Int) (s r most : Nat) (w : List Nat) (j : Nat) : Prop where
  pw : w.Pairwise fun i i' => i < i' ∧ g (r + i * s) - i < g (r + i' * s) - i'
  rng : ∀ i ∈ w, j ≤ i + most + 1 ∧ i < j
  cov : ∀ i, i < j → j ≤ i + most + 1 → ∃ i' ∈ w, i ≤ i' ∧ g (r + i' * s) - i' ≤ g (r + i * s) - i

theorem Win.push {w u v : List Nat} {j : Nat} (h : Win g s r most w j) (hw : w = u ++ v) (hv : ∀ i ∈ v, g (r + j * s) - j ≤ g (r + i * s) - i) (hu : ∀ i, u.getLast? = some i → g (r + i * s) - i < g (r + j * s) - j) :
    (u ++ [j]).Pairwise (fun i i' => i < i' ∧ g (r + i * s) - i < g (r + i' * s) - i') ∧ (∀ i ∈ u ++ [j], j ≤ i + most + 1 ∧ i ≤ j) ∧ (∀ i, i ≤ j → j ≤ i + most → ∃ i' ∈ u ++ [j], i ≤ i' ∧ g (r + i' * s) - i' ≤ g (r + i * s) - i) := by
  subst hw
  have pu := (List.pairwise_append.1 h.pw).1
  have hall : ∀ i ∈ u, g (r + i * s) - i < g (r + j * s) - j := by
    intro i hi
    rcases List.eq_nil_or_concat u with rfl | ⟨u', x, rfl⟩
    · cases hi
    · rw [List.concat_eq_append] at hi pu hu
      have hx := hu x (by simp)
      rcases List.mem_append.1 hi with hi | hi
      · have := ((List.pairwise_append.1 pu).2.2 i hi x (by simp)).2
        omega
      · rw [List.mem_singleton] at hi
        subst hi; exact hx
  refine ⟨?_, fun i hi => ?_, fun i hi hm => ?_⟩
  · rw [List.pairwise_append]
    refine ⟨pu, by simp, fun i hi i' hi' => ?_⟩
    rw [List.mem_singleton] at hi'
    subst hi'
    exact ⟨(h.rng i (by simp [hi])).2, hall i hi⟩
  · rcases List.mem_append.1 hi with hi | hi
    · have := h.rng i (by simp [hi]); omega
    · rw [List.mem_singleton] at hi; omega
  · by_cases e : i = j
    · subst e; exact ⟨i, by simp, Nat.le_refl _, Int.le_refl _⟩
    · obtain ⟨i', h1, h2, h3⟩ := h.cov i (by omega) (by omega)
      rcases List.mem_append.1 h1 with h1 | h1
      · exact ⟨i', by simp [h1], h2, h3⟩
      · have := hv i' h1
        exact ⟨j, by simp, by omega, by omega⟩

def val (s most : Nat) (g : Nat → Int) (x : Nat) : Int := if mv s g most x < 1001 then mv s g most x else 1001

theorem p13_eq (hF : 1100 ≤ F) (hn : n ≤ 1000) (hg : ∀ y, 0 ≤ g y ∧ g y ≤ 1001) (hs : 1 ≤ s) (hs2 : s ≤ 30) (hr : r < s) (hrn : r ≤ n) (hmost : most ≤ 1000) : ∀ (k j : Nat) (N B : Nat → Int) (w : List Nat), n + 1 < k + j → j ≤ n + 1 → w.length ≤ j → Win g s r most w j →
    ∃ N' B', f65_p13_5 F n a p most s r b (tab (n + 1) g) C k (tab (n + 1) N) (tab (n + 1) B) j (cst w) = some (tab (n + 1) N', tab (n + 1) B') ∧
      (∀ y, y % s = r → r + j * s ≤ y → y ≤ n → N' y = val s most g y ∧ B' y = (ma s g most y : Nat)) ∧ (∀ y, ¬ (y % s = r ∧ r + j * s ≤ y) → N' y = N y ∧ B' y = B y) := by
  intro k
  induction k with
  | zero =>
    intro j N B w h1 h2 h3 hw
    omega
  | succ k ih =>
    intro j N B w h1 h2 h3 hw
    have hjs : j ≤ j * s := Nat.le_mul_of_pos_right j hs
    have e : (j : Int) * s = ((j * s : Nat) : Int) := (Int.natCast_mul ..).symm
    unfold f65_p13_5
    by_cases hx : r + j * s ≤ n
    · have ex : w64 ((r : Int) + w64 ((j : Int) * s)) = ((r + j * s : Nat) : Int) := by
        rw [e, w64_in (n := ((j * s : Nat) : Int)) (by omega), w64_in (by omega)]; omega
      have hwr : ∀ i ∈ w, r + i * s ≤ n ∧ i ≤ 1000 := fun i hi => by
        have := (hw.rng i hi).2
        have : i * s ≤ j * s := Nat.mul_le_mul_right s (by omega)
        omega
      obtain ⟨u, v, e1, e2, e3, e4⟩ := pop_eq (F := F) (a := a) (b := b) (p := p) (C := C) (most := most) (x179 := tab (n + 1) N) (x180 := tab (n + 1) B) hn hg hx (by omega) F w (by omega) (by omega) hwr
      obtain ⟨q1, q2, q3⟩ := hw.push e1 e3 e4
      have hul : u.length ≤ w.length := by rw [e1]; simp
      -- the window behind this number
      obtain ⟨w3, z1, z2, z3⟩ : ∃ w3 : List Nat, f65_p20_17 F n a p most (cst u) j s r (((u ++ [j]).headD 0 : Nat) : Int) b (tab (n + 1) g) C (tab (n + 1) N) (tab (n + 1) B) = some (cst w3) ∧ Win g s r most w3 (j + 1) ∧ w3.length ≤ j + 1 := by
        unfold f65_p20_17
        have hcu : cst u ++ [(j : Int)] = cst (u ++ [j]) := by rw [cst_app]; rfl
        rw [hcu, cst_len]
        generalize hW : u ++ [j] = W at *
        have hWl : W.length = u.length + 1 := by rw [← hW]; simp
        cases W with
        | nil => simp at hWl
        | cons i0 W' =>
          rw [List.headD_cons]
          rw [List.pairwise_cons] at q1
          have hi0 := q2 i0 (by simp)
          by_cases hd : i0 + most < j
          · have hne : W' ≠ [] := by
              intro hnil
              subst hnil
              have : j = i0 := by
                have hm : j ∈ u ++ [j] := by simp
                rw [hW] at hm
                simpa using hm
              omega
            have hpos : 0 < W'.length := List.length_pos_iff.2 hne
            simp only [List.length_cons]
            rw [if_pos (by rw [w64_in (by omega)]; simp; omega), req_pos (by omega), req_pos (by omega)]
            refine ⟨W', ?_, ⟨q1.2, fun i hi => ?_, fun i hi hm => ?_⟩, ?_⟩
            · rw [show W'.length + 1 = (cst (i0 :: W')).length by rw [cst_len]; rfl, List.take_length]; rfl
            · have := q2 i (by simp [hi])
              have := (q1.1 i hi).1
              omega
            · obtain ⟨i', g1, g2, g3⟩ := q3 i (by omega) (by omega)
              rcases List.mem_cons.1 g1 with rfl | g1
              · omega
              · exact ⟨i', g1, g2, g3⟩
            · simp only [List.length_cons] at hWl; omega
          · rw [if_neg (by rw [w64_in (by omega)]; simp; omega)]
            refine ⟨i0 :: W', rfl, ⟨List.pairwise_cons.2 q1, fun i hi => ?_, fun i hi hm => q3 i (by omega) (by omega)⟩, ?_⟩
            · have := q2 i hi
              rcases List.mem_cons.1 hi with rfl | hi
              · omega
              · have := (q1.1 i hi).1
                omega
            · omega
      have hhead : (cst u ++ [(j : Int)])[0]? = some (((u ++ [j]).headD 0 : Nat) : Int) := by
        cases u <;> rfl
      -- its first number is the best one
      obtain ⟨i0, W', hw3⟩ : ∃ i0 W', w3 = i0 :: W' := by
        cases w3 with
        | nil =>
          obtain ⟨i', g1, _⟩ := z2.cov j (by omega) (by omega)
          cases g1
        | cons i0 W' => exact ⟨i0, W', rfl⟩
      subst hw3
      have hr0 := z2.rng i0 (by simp)
      have hpw := List.pairwise_cons.1 z2.pw
      have key : ∀ i, i ≤ j → j ≤ i + most → g (r + i0 * s) - i0 ≤ g (r + i * s) - i ∧ (i0 < i → g (r + i0 * s) - i0 < g (r + i * s) - i) := by
        intro i hi hm
        obtain ⟨i', g1, g2, g3⟩ := z2.cov i (by omega) (by omega)
        rcases List.mem_cons.1 g1 with rfl | g1
        · exact ⟨g3, fun h => by omega⟩
        · have := (hpw.1 i' g1).2
          exact ⟨by omega, fun _ => by omega⟩
      have hmul : ∀ i, i ≤ j → r + j * s - (j - i) * s = r + i * s := fun i hi => by
        have h1 : (j - i) * s + i * s = j * s := by rw [← Nat.add_mul, Nat.sub_add_cancel hi]
        omega
      have hfst : Fst s g most (r + j * s) (j - i0) := by
        have hle : ∀ c, c * s ≤ r + j * s → c ≤ j := fun c hc => by
          rcases Nat.lt_or_ge j c with h | h
          · have : (j + 1) * s ≤ c * s := Nat.mul_le_mul_right s h
            rw [Nat.add_mul, Nat.one_mul] at this
            omega
          · exact h
        have hsub : ∀ c, c ≤ j → g (r + j * s - c * s) = g (r + (j - c) * s) := fun c hc => by
          have := hmul (j - c) (by omega)
          rw [show j - (j - c) = c by omega] at this
          rw [this]
        refine ⟨by omega, ?_, fun c hc hcs => ?_, fun c hc hcs => ?_⟩
        · have : (j - i0) * s ≤ j * s := Nat.mul_le_mul_right s (by omega)
          omega
        · have hcj := hle c hcs
          have := (key (j - c) (by omega) (by omega)).1
          rw [hmul i0 (by omega), hsub c hcj]
          omega
        · have hcj := hle c hcs
          have := (key (j - c) (by omega) (by omega)).2 (by omega)
          rw [hmul i0 (by omega), hsub c hcj]
          omega
      obtain ⟨u1, u2⟩ := hfst.uniq
      rw [hmul i0 (by omega)] at u2
      have hgi := hg (r + i0 * s)
      have hi0n : r + i0 * s ≤ n := by
        have : i0 * s ≤ j * s := Nat.mul_le_mul_right s (by omega)
        omega
      rw [ex, if_pos (by simp; omega), e2, Option.bind_some, req_pos (by rw [cst_len, List.length_singleton]; omega), req_pos (by rw [List.length_append, cst_len, List.length_singleton]; omega), hhead, Option.bind_some, z1, Option.bind_some, req_pos (by rw [cst_len]; simp), show (cst (i0 :: W'))[0]? = some (i0 : Int) from rfl, Option.bind_some, f89_eq hn hg hi0n (by omega) (by omega), Option.bind_some,
        w64_succ (n := n) (by omega), Int.toNat_natCast, req_pos (by omega), Int.toNat_natCast, Nat.zero_add, req_pos (by rw [tab_len]; omega), req_pos (by rw [tab_len]; omega), tab_set, tab_set, w64_succ (by omega)]
      obtain ⟨N', B', r1, r2, r3⟩ := ih (j + 1) _ _ (i0 :: W') (by omega) (by omega) z3 z2
      refine ⟨N', B', r1, fun y y1 y2 y3 => ?_, fun y hy => ?_⟩
      · by_cases hy : y = r + j * s
        · have := r3 y (fun hh => by rw [Nat.add_mul, Nat.one_mul] at hh; omega)
          rw [this.1, this.2, if_pos hy, if_pos hy, hy]
          refine ⟨?_, ?_⟩
          · unfold val
            rw [u2]
            have e5 : g (r + i0 * s) + ((j - i0 : Nat) : Int) = g (r + i0 * s) + j - i0 := by omega
            rw [e5]
          · rw [u1, w64_in (by omega)]; omega
        · refine r2 y y1 ?_ y3
          have hd := Nat.div_add_mod y s
          rw [y1] at hd
          rw [Nat.add_mul, Nat.one_mul]
          have h5 : j ≤ y / s := by
            rcases Nat.lt_or_ge (y / s) j with h | h
            · have : (y / s + 1) * s ≤ j * s := Nat.mul_le_mul_right s h
              rw [Nat.add_mul, Nat.one_mul, Nat.mul_comm] at this
              omega
            · exact h
          have h6 : y / s ≠ j := fun hh => by
            rw [hh, Nat.mul_comm] at hd; omega
          have h7 : (j + 1) * s ≤ (y / s) * s := Nat.mul_le_mul_right s (by omega)
          rw [Nat.add_mul, Nat.one_mul, Nat.mul_comm (y / s)] at h7
          omega
      · have := r3 y (fun hh => by rw [Nat.add_mul, Nat.one_mul] at hh; exact hy ⟨hh.1, by omega⟩)
        rw [this.1, this.2]
        have hne : y ≠ r + j * s := fun hh => by
          refine hy ⟨?_, by omega⟩
          rw [hh, Nat.add_mul_mod_self_right, Nat.mod_eq_of_lt hr]
        rw [if_neg hne, if_neg hne]
        exact ⟨rfl, rfl⟩
    · have ex : ¬ (w64 ((r : Int) + w64 ((j : Int) * s)) ≤ (n : Int)) := by
        by_cases hsb : s ≤ 100000
        · have : j * s ≤ 1001 * 100000 := Nat.mul_le_mul (by omega) hsb
          rw [e, w64_in (n := ((j * s : Nat) : Int)) (by omega), w64_in (by omega)]; omega
        · exact absurd (show s ≤ 100000 by omega) hsb
      rw [if_neg (by simpa using ex)]
      exact ⟨N, B, rfl, fun y y1 y2 y3 => by omega, fun y _ => ⟨rfl, rfl⟩⟩
end

end Go.Gh.Pack
