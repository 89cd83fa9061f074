/- Packet: the ring of remainders is there; what Make answers. -/
import Derived.Test.YtkjlgbnbpeijbaaPackH
namespace Go.Gh.Pack
set_option linter.unusedVariables false
set_option linter.unusedSimpArgs false

/-- The cells of a ring so far. -/
structure Rg (n : Nat) (M : Int) (L : List Int) : Prop where
  len : L.length = n
  bd : ∀ x ∈ L, -1 ≤ x ∧ x ≤ M
theorem Rg.mono {n : Nat} {M M' : Int} {L : List Int} (h : Rg n M L) (hM : M ≤ M') : Rg n M' L := ⟨h.len, fun x hx => by have := h.bd x hx; omega⟩
theorem Rg.set {n : Nat} {M : Int} {L : List Int} (h : Rg n M L) (i : Nat) {v : Int} (hv : -1 ≤ v ∧ v ≤ M) : Rg n M (L.set i v) := ⟨by rw [List.length_set]; exact h.len, fun x hx => by
  rcases List.mem_or_eq_of_mem_set hx with hx | rfl
  · exact h.bd x hx
  · exact hv⟩
theorem Rg.get {n : Nat} {M : Int} {L : List Int} (h : Rg n M L) {i : Nat} (hi : i < n) : ∃ v, L[i]? = some v ∧ -1 ≤ v ∧ v ≤ M := by
  have hi' : i < L.length := by rw [h.len]; exact hi
  exact ⟨L[i], List.getElem?_eq_getElem hi', h.bd _ (List.getElem_mem hi')⟩

theorem f90_look : ((List.range 31).all fun s => (List.range 31).all fun b => if 0 < s ∧ 0 < b then (match f90 1100 (s : Int) (b : Int) with | some d => decide (1 ≤ d ∧ d ≤ b) | none => false) else true) = true := by decide +kernel
theorem f90_some {s b : Nat} (hs : 1 ≤ s ∧ s ≤ 30) (hb : 1 ≤ b ∧ b ≤ 30) : ∃ d : Nat, f90 1100 s b = some (d : Int) ∧ 1 ≤ d ∧ d ≤ b := by
  have h := f90_look
  simp only [List.all_eq_true, List.mem_range] at h
  have h := h s (by omega) b (by omega)
  rw [if_pos (by omega)] at h
  split at h
  · rename_i d e
    rw [decide_eq_true_eq] at h
    exact ⟨d.toNat, by rw [e]; congr 1; omega, by omega, by omega⟩
  · cases h

section
variable {by_ s d r : Nat} {a : List Int} {i : Int} {M : Int}

theorem p13r_eq {F : Nat} (hb : by_ ≤ 30) (hd : 1 ≤ d ∧ d ≤ 30) {r : Int} {L : List Int} (hL : Rg by_ M L) (hM : M ≤ 1000000) : ∀ (k q : Nat) (m : Int), 0 < k ∧ by_ < k + q → q ≤ 100 → -1 ≤ m ∧ m ≤ M →
    ∃ v, f68_p13_3 F by_ s d a i r L k m q = some v ∧ -1 ≤ v ∧ v ≤ M := by
  intro k
  induction k with
  | zero =>
    intro q m h1 h2 h3
    omega
  | succ k ih =>
    intro q m h1 h2 h3
    unfold f68_p13_3
    by_cases hq : q < by_
    · obtain ⟨v, e, hv⟩ := hL.get hq
      have eq : w64 ((q : Int) + d) = ((q + d : Nat) : Int) := by rw [w64_in (by omega)]; omega
      rw [if_pos (by simp; omega), req_pos (by omega), Int.toNat_natCast, Nat.zero_add, e, Option.bind_some, eq]
      unfold f68_p16_3
      by_cases c1 : v ≥ 0
      · rw [if_pos (by simpa using c1)]
        by_cases c2 : m < 0
        · rw [if_pos (by simpa using c2)]
          exact ih _ _ (by omega) (by omega) hv
        · rw [if_neg (by simpa using c2)]
          by_cases c3 : v < m
          · rw [if_pos (by simpa using c3), req_pos (by omega), Int.toNat_natCast, Nat.zero_add, e, Option.bind_some, Option.bind_some]
            exact ih _ _ (by omega) (by omega) hv
          · rw [if_neg (by simpa using c3), Option.bind_some]
            exact ih _ _ (by omega) (by omega) h3
      · rw [if_neg (by simpa using c1)]
        exact ih _ _ (by omega) (by omega) h3
    · rw [if_neg (by simp; omega)]
      exact ⟨m, rfl, h3⟩

theorem p18r_eq {F : Nat} (hb : 1 ≤ by_ ∧ by_ ≤ 30) (hs : s ≤ 30) (hd : 1 ≤ d) {r : Int} (hM : M ≤ 1000000 ∧ 0 ≤ M) : ∀ (k t : Nat) (m : Int) (L : List Int), 31 < k + t → t ≤ 31 → -1 ≤ m ∧ m ≤ M + 30 * t → Rg by_ (M + 30 * t) L →
    ∃ L', f68_p18_3 F by_ s d a i r k m t L = some L' ∧ Rg by_ (M + 960) L' := by
  have hdiv : w64 (Int.tdiv (by_ : Int) (d : Int)) = ((by_ / d : Nat) : Int) := by
    rw [Int.tdiv_eq_ediv_of_nonneg (by omega), ← Int.natCast_ediv, w64_nat (by have := Nat.div_le_self by_ d; omega)]
  have hdl : by_ / d ≤ 30 := Nat.le_trans (Nat.div_le_self _ _) hb.2
  intro k
  induction k with
  | zero => intro t m L h1 h2; omega
  | succ k ih =>
    intro t m L h1 h2 h3 hL
    unfold f68_p18_3
    by_cases hm : m ≥ 0
    · rw [if_pos (by simpa using hm), req_pos (by omega), hdiv]
      by_cases ht : t < by_ / d
      · have em : w64 (m + s) = m + s := w64_in (by omega)
        have hmod : Int.tmod (m + s) by_ = (m + s) % by_ := Int.tmod_eq_emod_of_nonneg (by omega)
        have q0 := Int.emod_nonneg (m + s) (b := (by_ : Int)) (by omega)
        have q1 := Int.emod_lt_of_pos (m + s) (b := (by_ : Int)) (by omega)
        obtain ⟨v, e, hv⟩ := hL.get (i := ((m + s) % by_).toNat) (by omega)
        rw [if_pos (by simp; omega), req_pos (by omega), em, hmod, req_pos (by omega), Nat.zero_add, e, Option.bind_some, w64_succ (by omega)]
        have hL' : Rg by_ (M + 30 * ((t + 1 : Nat) : Int)) L := hL.mono (by omega)
        by_cases c1 : v ≥ 0
        · rw [if_pos (by simpa using c1)]
          unfold f68_p21_7
          rw [em, hmod]
          by_cases c2 : v < m + s
          · rw [if_pos (by simpa using c2), req_pos (by omega), Nat.zero_add, e, Option.bind_some, Option.bind_some]
            exact ih (t + 1) _ _ (by omega) (by omega) (by omega) hL'
          · rw [if_neg (by simpa using c2), req_pos (by omega), Nat.zero_add, req_pos (by rw [hL.len]; omega), Option.bind_some]
            exact ih (t + 1) _ _ (by omega) (by omega) (by omega) (hL'.set _ (by omega))
        · rw [if_neg (by simpa using c1), req_pos (by rw [hL.len]; omega)]
          exact ih (t + 1) _ _ (by omega) (by omega) (by omega) (hL'.set _ (by omega))
      · rw [if_neg (by simp; omega)]
        exact ⟨L, rfl, hL.mono (by omega)⟩
    · rw [if_neg (by simpa using hm)]
      exact ⟨L, rfl, hL.mono (by omega)⟩

theorem p9r_eq {F : Nat} (hF : 1100 ≤ F) (hb : 1 ≤ by_ ∧ by_ ≤ 30) (hs : s ≤ 30) (hd : 1 ≤ d ∧ d ≤ 30) (hM : M ≤ 800000 ∧ 0 ≤ M) : ∀ (k r : Nat) (L : List Int), d < k + r → r ≤ d → Rg by_ (M + 1000 * r) L →
    ∃ L', f68_p9_1 F by_ s d a i k r L = some L' ∧ Rg by_ (M + 30000) L' := by
  intro k
  induction k with
  | zero => intro r L h1 h2; omega
  | succ k ih =>
    intro r L h1 h2 hL
    unfold f68_p9_1
    by_cases hr : r < d
    · obtain ⟨v, e1, hv⟩ := p13r_eq (F := F) (s := s) (d := d) (a := a) (i := i) (r := (r : Int)) hb.2 hd hL (by omega) F r (-1) (by omega) (by omega) (by omega)
      obtain ⟨L', e2, hL'⟩ := p18r_eq (F := F) (s := s) (d := d) (a := a) (i := i) (r := (r : Int)) (M := M + 1000 * r) hb hs hd.1 (by omega) F 1 v L (by omega) (by omega) (by omega) (hL.mono (by omega))
      rw [if_pos (by simp; omega), e1, Option.bind_some, show f68_p18_3 F by_ s d a i r F v 1 L = _ from e2, Option.bind_some, w64_succ (by omega)]
      exact ih (r + 1) L' (by omega) (by omega) (hL'.mono (by omega))
    · rw [if_neg (by simp; omega)]
      exact ⟨L, rfl, hL.mono (by omega)⟩
end

theorem p5r_eq {b : Nat} {a : List Int} (hb : 1 ≤ b ∧ b ≤ 30) (ha : ∀ x ∈ a, 1 ≤ x ∧ x ≤ 30) (h5 : a.length ≤ 5) : ∀ (k i : Nat) (L : List Int), i ≤ a.length → a.length < k + i → Rg b (30000 * i) L →
    ∃ L', f68_p5 1100 b a k i L = some L' ∧ L'.length = b := by
  intro k
  induction k with
  | zero => intro i L _ h; omega
  | succ k ih =>
    intro i L h1 h2 hL
    unfold f68_p5
    by_cases hi : i < a.length
    · have hs := ha _ (List.getElem_mem hi)
      obtain ⟨s, es⟩ : ∃ s : Nat, a[i] = s := ⟨a[i].toNat, by omega⟩
      obtain ⟨d, e1, d1, d2⟩ := f90_some (s := s) (b := b) (by omega) hb
      obtain ⟨L', e2, hL'⟩ := p9r_eq (F := 1100) (s := s) (d := d) (a := a) (i := (i : Int)) (M := 30000 * i) (by omega) hb (by omega) (by omega) (by omega) 1100 0 L (by omega) (by omega) (hL.mono (by omega))
      rw [if_pos (by simp; omega), at_get hi, Option.bind_some, es, e1, Option.bind_some, show f68_p9_1 1100 b s d a i 1100 0 L = _ from e2, Option.bind_some, w64_succ (by omega)]
      exact ih (i + 1) L' (by omega) (by omega) (hL'.mono (by omega))
    · rw [if_neg (by simp; omega)]
      exact ⟨L, rfl, hL.len⟩

theorem p1r_eq {F b : Nat} {a : List Int} (hb : b ≤ 30) : ∀ (k x : Nat) (L : List Int), x ≤ b → b < k + x → L.length = b → (∀ y ∈ L, -1 ≤ y ∧ y ≤ 0) → ∃ L', f68_p1 F a b k x L = some L' ∧ L'.length = b ∧ (∀ y ∈ L', -1 ≤ y ∧ y ≤ 0) := by
  intro k
  induction k with
  | zero => intro x L _ h; omega
  | succ k ih =>
    intro x L h1 h2 h3 h4
    unfold f68_p1
    rw [Int.toNat_natCast]
    by_cases hx : x < b
    · rw [if_pos (by simp; omega), req_pos (by omega), Int.toNat_natCast, req_pos (by omega), w64_succ (by omega)]
      refine ih (x + 1) _ (by omega) (by omega) (by simpa using h3) fun y hy => ?_
      rcases List.mem_or_eq_of_mem_set hy with hy | rfl
      · exact h4 y hy
      · decide
    · rw [if_neg (by simp; omega)]
      exact ⟨L, rfl, h3, h4⟩

theorem f68_some {b : Nat} {a : List Int} (hb : 1 ≤ b ∧ b ≤ 30) (ha : ∀ x ∈ a, 1 ≤ x ∧ x ≤ 30) (h5 : a.length ≤ 5) : ∃ L, f68 1100 a b = some L := by
  obtain ⟨L1, e1, l1, b1⟩ := p1r_eq (F := 1100) (a := a) hb.2 1100 0 (List.replicate b 0) (by omega) (by omega) (by simp) (fun y hy => by rw [(List.mem_replicate.1 hy).2]; decide)
  obtain ⟨L2, e2, l2⟩ := p5r_eq hb ha h5 1100 0 (L1.set 0 0) (by omega) (by omega) (by
    refine Rg.set ⟨l1, fun x hx => ?_⟩ 0 (by omega)
    have := b1 x hx; omega)
  unfold f68
  rw [req_pos (by omega), Int.toNat_natCast, show f68_p1 1100 a b 1100 0 (List.replicate b 0) = _ from e1, Option.bind_some, req_pos (by omega), req_pos (by omega), show f68_p5 1100 b a 1100 0 (L1.set 0 0) = _ from e2, Option.bind_some, req_pos (by omega)]
  exact ⟨_, rfl⟩

/-- As many packets of each size as fit into n. -/
def full (n : Nat) (a : List Int) : List Int := a.map fun s => ((n / s.toNat : Nat) : Int)
theorem full_len (n : Nat) (a : List Int) : (full n a).length = a.length := by simp [full]

theorem f19_p2_eq {F n : Nat} {a : List Int} (hn : n ≤ 1000) (ha : ∀ x ∈ a, 1 ≤ x ∧ x ≤ 30) (h5 : a.length ≤ 5) : ∀ (k i : Nat) (acc : List Int), i ≤ a.length → a.length < k + i → acc.length ≤ i → f19_p2 F n a k i a acc = some (a, acc ++ full n (a.drop i)) := by
  intro k
  induction k with
  | zero => intro i acc _ h; omega
  | succ k ih =>
    intro i acc h1 h2 h3
    unfold f19_p2
    by_cases hi : i < a.length
    · have hs := ha _ (List.getElem_mem hi)
      obtain ⟨s, es⟩ : ∃ s : Nat, a[i] = s := ⟨a[i].toNat, by omega⟩
      have e : w64 (Int.tdiv (n : Int) (s : Int)) = ((n / s : Nat) : Int) := by
        rw [Int.tdiv_eq_ediv_of_nonneg (by omega), ← Int.natCast_ediv, w64_nat (by have := Nat.div_le_self n s; omega)]
      rw [if_pos (by simp; omega), at_get hi, Option.bind_some, es, req_pos (by omega), e, req_pos (by simp; omega), w64_succ (by omega), ih (i + 1) _ (by omega) (by omega) (by simp; omega), drop_cons hi, es]
      simp [full]
    · rw [if_neg (by simp; omega), List.drop_eq_nil_of_le (by omega)]
      simp [full]

theorem f19_eq {a : List Int} (hck : ck a = 0) {n : Nat} (hn : n ≤ 1000) : f19 1100 a n = some (fillR a (full n a) n) := by
  obtain ⟨c1, c2, _⟩ := ck_zero hck
  have hs := ck_all hck
  have h0 := hs _ (List.getElem_mem c1)
  obtain ⟨b, eb⟩ : ∃ b : Nat, a[0] = b := ⟨a[0].toNat, by omega⟩
  obtain ⟨L, eL⟩ := f68_some (b := b) (by omega) hs c2
  have e2 := f19_p2_eq (F := 1100) hn hs c2 1100 0 [] (by omega) (by omega) (by simp)
  rw [List.drop_zero, List.nil_append] at e2
  have hG : GoodM a (full n a) := ⟨full_len n a, c2, hs, fun x hx => by
    obtain ⟨s, _, rfl⟩ := List.mem_map.1 hx
    have := Nat.div_le_self n s.toNat
    generalize n / s.toNat = z at *
    omega⟩
  unfold f19 f60
  rw [f26_eq (by omega), Option.bind_some, hck, if_neg (by decide), f67_eq, Option.bind_some, if_pos (decide_eq_true (by omega)), show at? a 0 = some (a[0]) from at_get c1, Option.bind_some, eb, eL, Option.bind_some, Option.bind_some]
  dsimp only
  rw [if_neg (by decide), show f19_p2 1100 n a 1100 0 a [] = _ from e2, Option.bind_some]
  dsimp only
  rw [take0, f65_eq (by omega) hn hG]
  rfl

end Go.Gh.Pack
