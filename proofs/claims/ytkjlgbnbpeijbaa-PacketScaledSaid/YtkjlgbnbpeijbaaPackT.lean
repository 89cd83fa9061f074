/- Packet: the ring of sizes that are multiplied. -/
import Derived.Test.YtkjlgbnbpeijbaaPackR
namespace Go.Gh.Pack
set_option linter.unusedVariables false
set_option linter.unusedSimpArgs false

def sc (d : Nat) (v : Int) : Int := if v < 0 then -1 else d * v
theorem sc_neg {d : Nat} {v : Int} (h : v < 0) : sc d v = -1 := if_pos h
theorem sc_pos {d : Nat} {v : Int} (h : ¬ v < 0) : sc d v = d * v := if_neg h
theorem sc_lt {d : Nat} (hd : 2 ≤ d) (v : Int) : sc d v < 0 ↔ v < 0 := by
  unfold sc
  split
  · rename_i h; exact ⟨fun _ => h, fun _ => by decide⟩
  · rename_i h
    have : 0 ≤ (d : Int) * v := Int.mul_nonneg (by omega) (by omega)
    omega

/-- The second list is the first one, multiplied. -/
structure Sim (d n : Nat) (L L' : List Int) : Prop where
  len : L.length = n
  len' : L'.length = d * n
  at_ : ∀ i v, L[i]? = some v → L'[d * i]? = some (sc d v)
  off : ∀ j, j < d * n → j % d ≠ 0 → L'[j]? = some (-1)
theorem Sim.set {d n : Nat} {L L' : List Int} (hd : 2 ≤ d) (h : Sim d n L L') {i : Nat} (hi : i < n) (v : Int) : Sim d n (L.set i v) (L'.set (d * i) (sc d v)) := by
  refine ⟨by rw [List.length_set]; exact h.len, by rw [List.length_set]; exact h.len', fun j u hu => ?_, fun j hj hm => ?_⟩
  · rw [List.getElem?_set] at hu ⊢
    by_cases e : i = j
    · subst e
      rw [if_pos rfl, if_pos (by rw [h.len]; exact hi)] at hu
      have h1 : d * i < L'.length := by rw [h.len']; exact Nat.mul_lt_mul_of_pos_left hi (by omega)
      rw [if_pos rfl, if_pos h1]
      cases hu; rfl
    · rw [if_neg e] at hu
      have : d * i ≠ d * j := fun hh => e (Nat.eq_of_mul_eq_mul_left (by omega) hh)
      rw [if_neg this]
      exact h.at_ j u hu
  · have : d * i ≠ j := fun hh => hm (by rw [← hh]; exact Nat.mul_mod_right d i)
    rw [List.getElem?_set, if_neg this]
    exact h.off j hj hm

section
variable {d b s g : Nat} {a a' : List Int} {i i' : Int}

theorem p13_sim {F : Nat} (hd : 2 ≤ d ∧ d ≤ 3) (hb : b ≤ 10) (hg : g ≤ 10) {r r' : Int} {L L' : List Int} (hS : Sim d b L L') : ∀ (k q : Nat) (m v : Int), q ≤ 100 → f68_p13_3 F b s g a i r L k m q = some v →
    f68_p13_3 F ((d * b : Nat) : Int) ((d * s : Nat) : Int) ((d * g : Nat) : Int) a' i' r' L' k (sc d m) ((d * q : Nat) : Int) = some (sc d v) := by
  intro k
  induction k with
  | zero => intro q m v _ h; cases h
  | succ k ih =>
    intro q m v hq h
    unfold f68_p13_3 at h ⊢
    have hdq : d * q ≤ 3 * 100 := Nat.mul_le_mul hd.2 hq
    have hdg : d * g ≤ 3 * 10 := Nat.mul_le_mul hd.2 hg
    by_cases hlt : q < b
    · have hlt' : d * q < d * b := Nat.mul_lt_mul_of_pos_left hlt (by omega)
      obtain ⟨x, hx⟩ : ∃ x, L[q]? = some x := ⟨_, List.getElem?_eq_getElem (by rw [hS.len]; exact hlt)⟩
      have hx' := hS.at_ q x hx
      have e1 : w64 ((q : Int) + g) = ((q + g : Nat) : Int) := by rw [w64_in (by omega)]; omega
      have e2 : w64 (((d * q : Nat) : Int) + ((d * g : Nat) : Int)) = ((d * (q + g) : Nat) : Int) := by rw [w64_in (by omega), Nat.mul_add]; omega
      rw [if_pos (by simp; omega), req_pos (by omega), Int.toNat_natCast, Nat.zero_add, hx, Option.bind_some, e1] at h
      rw [if_pos (decide_eq_true (by omega)), req_pos (by omega), Int.toNat_natCast, Nat.zero_add, hx', Option.bind_some, e2]
      by_cases c1 : x ≥ 0
      · have c1' : sc d x ≥ 0 := by have := sc_lt hd.1 x; omega
        rw [if_pos (by simpa using c1)] at h
        rw [if_pos (by simpa using c1')]
        by_cases c2 : m < 0
        · rw [if_pos (by simpa using c2)] at h
          rw [if_pos (by simpa using (sc_lt hd.1 m).2 c2)]
          exact ih _ _ _ (by omega) h
        · have c2' : ¬ sc d m < 0 := fun hh => c2 ((sc_lt hd.1 m).1 hh)
          rw [if_neg (by simpa using c2)] at h
          rw [if_neg (by simpa using c2')]
          unfold f68_p16_3 at h ⊢
          have hiff : sc d x < sc d m ↔ x < m := by
            rw [sc_pos (by omega), sc_pos c2]
            constructor
            · intro hh
              exact Int.lt_of_mul_lt_mul_left hh (by omega)
            · intro hh
              exact Int.mul_lt_mul_of_pos_left hh (by omega)
          by_cases c3 : x < m
          · rw [if_pos (by simpa using c3), req_pos (by omega), Int.toNat_natCast, Nat.zero_add, hx, Option.bind_some, Option.bind_some] at h
            rw [if_pos (by simpa using hiff.2 c3), req_pos (by omega), Int.toNat_natCast, Nat.zero_add, hx', Option.bind_some, Option.bind_some]
            exact ih _ _ _ (by omega) h
          · rw [if_neg (by simpa using c3), Option.bind_some] at h
            rw [if_neg (by simpa using fun hh => c3 (hiff.1 hh)), Option.bind_some]
            exact ih _ _ _ (by omega) h
      · have c1' : ¬ sc d x ≥ 0 := by have := sc_lt hd.1 x; omega
        rw [if_neg (by simpa using c1)] at h
        rw [if_neg (by simpa using c1')]
        exact ih _ _ _ (by omega) h
    · have hlt' : ¬ d * q < d * b := fun hh => hlt (Nat.lt_of_mul_lt_mul_left hh)
      rw [if_neg (by simp; omega)] at h
      rw [if_neg (by rw [decide_eq_true_eq]; omega)]
      cases h; rfl

theorem p13_off {F : Nat} (hd : 2 ≤ d ∧ d ≤ 3) (hb : b ≤ 10) (hg : 1 ≤ g ∧ g ≤ 10) {r' : Int} {L L' : List Int} (hS : Sim d b L L') : ∀ (k q : Nat), 0 < k ∧ d * b < k + q → q ≤ 100 → q % d ≠ 0 →
    f68_p13_3 F ((d * b : Nat) : Int) ((d * s : Nat) : Int) ((d * g : Nat) : Int) a' i' r' L' k (-1) q = some (-1) := by
  intro k
  induction k with
  | zero => intro q h; omega
  | succ k ih =>
    intro q h1 h2 h3
    have hdg : d * g ≤ 3 * 10 := Nat.mul_le_mul hd.2 hg.2
    have hdg1 : 2 * 1 ≤ d * g := Nat.mul_le_mul hd.1 hg.1
    have hdb : d * b ≤ 3 * 10 := Nat.mul_le_mul hd.2 hb
    unfold f68_p13_3
    by_cases hlt : q < d * b
    · have e2 : w64 ((q : Int) + ((d * g : Nat) : Int)) = ((q + d * g : Nat) : Int) := by rw [w64_in (by omega)]; omega
      rw [if_pos (decide_eq_true (by omega)), req_pos (by omega), Int.toNat_natCast, Nat.zero_add, hS.off q hlt h3, Option.bind_some, if_neg (by decide), e2]
      exact ih _ (by omega) (by omega) (by rw [Nat.add_mul_mod_self_left]; exact h3)
    · rw [if_neg (by rw [decide_eq_true_eq]; omega)]

theorem p18_sim {F : Nat} (hd : 2 ≤ d ∧ d ≤ 3) (hb : 1 ≤ b ∧ b ≤ 10) (hs : s ≤ 10) (hg : 1 ≤ g) {r r' M : Int} (hM : M ≤ 1000000 ∧ 0 ≤ M) : ∀ (k t : Nat) (m : Int) (L L' L2 : List Int), t ≤ 31 → -1 ≤ m ∧ m ≤ M + 30 * t → Rg b (M + 30 * t) L → Sim d b L L' → f68_p18_3 F b s g a i r k m t L = some L2 →
    ∃ L2', f68_p18_3 F ((d * b : Nat) : Int) ((d * s : Nat) : Int) ((d * g : Nat) : Int) a' i' r' k (sc d m) t L' = some L2' ∧ Sim d b L2 L2' := by
  have hdiv : w64 (Int.tdiv (b : Int) (g : Int)) = ((b / g : Nat) : Int) := by
    rw [Int.tdiv_eq_ediv_of_nonneg (by omega), ← Int.natCast_ediv, w64_nat (by have := Nat.div_le_self b g; omega)]
  have hdb : d * b ≤ 3 * 10 := Nat.mul_le_mul hd.2 hb.2
  have hdiv' : w64 (Int.tdiv ((d * b : Nat) : Int) ((d * g : Nat) : Int)) = ((b / g : Nat) : Int) := by
    rw [Int.tdiv_eq_ediv_of_nonneg (by omega), ← Int.natCast_ediv, Nat.mul_div_mul_left _ _ (by omega), w64_nat (by have := Nat.div_le_self b g; omega)]
  have hdl : b / g ≤ 10 := Nat.le_trans (Nat.div_le_self _ _) hb.2
  intro k
  induction k with
  | zero => intro t m L L' L2 _ _ _ _ h; cases h
  | succ k ih =>
    intro t m L L' L2 h1 h2 hL hS h
    unfold f68_p18_3 at h ⊢
    have hdg : 0 < d * g := Nat.mul_pos (by omega) hg
    by_cases hm : m ≥ 0
    · have hm' : sc d m ≥ 0 := by have := sc_lt hd.1 m; omega
      rw [if_pos (by simpa using hm), req_pos (by omega), hdiv] at h
      rw [if_pos (by simpa using hm'), req_pos (by omega), hdiv']
      by_cases ht : t < b / g
      · have hdm : (d : Int) * m ≤ 3 * (M + 30 * t) := Int.mul_le_mul (by omega) h2.2 hm (by omega)
        have hdm0 : 0 ≤ (d : Int) * m := Int.mul_nonneg (by omega) hm
        have hds : d * s ≤ 3 * 10 := Nat.mul_le_mul hd.2 hs
        have em : w64 (m + s) = m + s := w64_in (by omega)
        have em' : w64 (sc d m + ((d * s : Nat) : Int)) = d * (m + s) := by
          rw [sc_pos (by omega), w64_in (by omega), Int.mul_add, Int.natCast_mul]
        have hmod : Int.tmod (m + s) b = (m + s) % b := Int.tmod_eq_emod_of_nonneg (by omega)
        have hms0 : 0 ≤ (d : Int) * (m + s) := Int.mul_nonneg (by omega) (by omega)
        have hmod' : Int.tmod ((d : Int) * (m + s)) ((d * b : Nat) : Int) = d * ((m + s) % b) := by
          rw [Int.tmod_eq_emod_of_nonneg hms0, Int.natCast_mul, Int.mul_emod_mul_of_pos _ _ (by omega)]
        have q0 := Int.emod_nonneg (m + s) (b := (b : Int)) (by omega)
        have q1 := Int.emod_lt_of_pos (m + s) (b := (b : Int)) (by omega)
        obtain ⟨z, ez⟩ : ∃ z : Nat, (m + s) % b = z := ⟨((m + s) % b).toNat, by omega⟩
        have hz : z < b := by omega
        have ez' : (d : Int) * ((m + s) % b) = ((d * z : Nat) : Int) := by rw [ez, Int.natCast_mul]
        have hz' : d * z < d * b := Nat.mul_lt_mul_of_pos_left hz (by omega)
        obtain ⟨v, e, hv⟩ := hL.get hz
        have e' := hS.at_ z v e
        rw [if_pos (by simp; omega), req_pos (by omega), em, hmod, ez, req_pos (by omega), Int.toNat_natCast, Nat.zero_add, e, Option.bind_some, w64_succ (by omega)] at h
        rw [if_pos (by simp; omega), req_pos (by omega), em', hmod', ez', req_pos (by omega), Int.toNat_natCast, Nat.zero_add, e', Option.bind_some, w64_succ (by omega)]
        have hL' : Rg b (M + 30 * ((t + 1 : Nat) : Int)) L := hL.mono (by omega)
        have esc : (d : Int) * (m + s) = sc d (m + s) := (sc_pos (by omega)).symm
        by_cases c1 : v ≥ 0
        · have c1' : sc d v ≥ 0 := by have := sc_lt hd.1 v; omega
          rw [if_pos (by simpa using c1)] at h
          rw [if_pos (by simpa using c1')]
          unfold f68_p21_7 at h ⊢
          rw [em, hmod, ez] at h
          rw [em', hmod', ez']
          have hiff : sc d v < d * (m + s) ↔ v < m + s := by
            rw [sc_pos (by omega)]
            exact ⟨fun hh => Int.lt_of_mul_lt_mul_left hh (by omega), fun hh => Int.mul_lt_mul_of_pos_left hh (by omega)⟩
          by_cases c2 : v < m + s
          · rw [if_pos (by simpa using c2), req_pos (by omega), Int.toNat_natCast, Nat.zero_add, e, Option.bind_some, Option.bind_some] at h
            rw [if_pos (by simpa using hiff.2 c2), req_pos (by omega), Int.toNat_natCast, Nat.zero_add, e', Option.bind_some, Option.bind_some]
            exact ih (t + 1) _ _ _ _ (by omega) (by omega) hL' hS h
          · rw [if_neg (by simpa using c2), req_pos (by omega), Int.toNat_natCast, Nat.zero_add, req_pos (by rw [hL.len]; omega), Option.bind_some] at h
            rw [if_neg (by simpa using fun hh => c2 (hiff.1 hh)), req_pos (by omega), Int.toNat_natCast, Nat.zero_add, req_pos (by rw [hS.len']; omega), Option.bind_some]
            dsimp only at h ⊢
            rw [esc]
            exact ih (t + 1) _ _ _ _ (by omega) (by omega) (hL'.set _ (by omega)) (hS.set hd.1 hz _) h
        · have c1' : ¬ sc d v ≥ 0 := by have := sc_lt hd.1 v; omega
          rw [if_neg (by simpa using c1), req_pos (by rw [hL.len]; omega)] at h
          rw [if_neg (by simpa using c1'), req_pos (by rw [hS.len']; omega), esc]
          exact ih (t + 1) _ _ _ _ (by omega) (by omega) (hL'.set _ (by omega)) (hS.set hd.1 hz _) h
      · rw [if_neg (by simp; omega)] at h
        rw [if_neg (by simp; omega)]
        cases h
        exact ⟨L', rfl, hS⟩
    · have hm' : ¬ sc d m ≥ 0 := by have := sc_lt hd.1 m; omega
      rw [if_neg (by simpa using hm)] at h
      rw [if_neg (by simpa using hm')]
      cases h
      exact ⟨L', rfl, hS⟩

theorem p9_off {F : Nat} (hF : 1100 ≤ F) (hd : 2 ≤ d ∧ d ≤ 3) (hb : b ≤ 10) (hg : 1 ≤ g ∧ g ≤ 10) {L L' : List Int} (hS : Sim d b L L') (k r : Nat) (hr : r < d * g) (hm : r % d ≠ 0) :
    f68_p9_1 F ((d * b : Nat) : Int) ((d * s : Nat) : Int) ((d * g : Nat) : Int) a' i' (k + 1) r L' = f68_p9_1 F ((d * b : Nat) : Int) ((d * s : Nat) : Int) ((d * g : Nat) : Int) a' i' k ((r + 1 : Nat) : Int) L' := by
  have hdg : d * g ≤ 3 * 10 := Nat.mul_le_mul hd.2 hg.2
  have hdb : d * b ≤ 3 * 10 := Nat.mul_le_mul hd.2 hb
  rw [f68_p9_1, if_pos (decide_eq_true (by omega)), p13_off (F := F) (s := s) hd hb hg hS F r (by omega) (by omega) hm, Option.bind_some, w64_succ (by omega)]
  obtain ⟨G, rfl⟩ : ∃ G, F = G + 1 := ⟨F - 1, by omega⟩
  rw [show f68_p18_3 (G + 1) ((d * b : Nat) : Int) ((d * s : Nat) : Int) ((d * g : Nat) : Int) a' i' r (G + 1) (-1) 1 L' = some L' from by unfold f68_p18_3; rw [if_neg (by decide)], Option.bind_some]

theorem p9_sim {F : Nat} (hF : 1100 ≤ F) (hd : 2 ≤ d ∧ d ≤ 3) (hb : 1 ≤ b ∧ b ≤ 10) (hs : s ≤ 10) (hg : 1 ≤ g ∧ g ≤ 10) {M : Int} (hM : M ≤ 800000 ∧ 0 ≤ M) : ∀ (k k' r : Nat) (L L' L2 : List Int), g < k + r → r ≤ g → d * g < k' + d * r → Rg b (M + 1000 * r) L → Sim d b L L' → f68_p9_1 F b s g a i k r L = some L2 →
    ∃ L2', f68_p9_1 F ((d * b : Nat) : Int) ((d * s : Nat) : Int) ((d * g : Nat) : Int) a' i' k' ((d * r : Nat) : Int) L' = some L2' ∧ Sim d b L2 L2' := by
  have hdg : d * g ≤ 3 * 10 := Nat.mul_le_mul hd.2 hg.2
  intro k
  induction k with
  | zero => intro k' r L L' L2 h1 h2; omega
  | succ k ih =>
    intro k' r L L' L2 h1 h2 h3 hL hS h
    unfold f68_p9_1 at h
    by_cases hr : r < g
    · have hr' : d * (r + 1) ≤ d * g := Nat.mul_le_mul_left d hr
      have er : d * (r + 1) = d * r + d := by rw [Nat.mul_add, Nat.mul_one]
      obtain ⟨v, e1, hv⟩ := p13r_eq (F := F) (s := s) (d := g) (a := a) (i := i) (r := (r : Int)) (M := M + 1000 * r) (by omega : b ≤ 30) (by omega) hL (by omega) F r (-1) (by omega) (by omega) (by omega)
      obtain ⟨L1, e2, hL1⟩ := p18r_eq (F := F) (s := s) (d := g) (a := a) (i := i) (r := (r : Int)) (M := M + 1000 * r) (by omega) (by omega) hg.1 (by omega) F 1 v L (by omega) (by omega) (by omega) (hL.mono (by omega))
      have e2 : f68_p18_3 F b s g a i r F v 1 L = some L1 := e2
      rw [if_pos (by simp; omega), e1, Option.bind_some, e2, Option.bind_some, w64_succ (by omega)] at h
      have s1 := p13_sim (F := F) (s := s) (a' := a') (i' := i') (r' := ((d * r : Nat) : Int)) hd hb.2 hg.2 hS F r (-1) v (by omega) e1
      obtain ⟨L1', s2, hS1⟩ := p18_sim (F := F) (a' := a') (i' := i') (r' := ((d * r : Nat) : Int)) (M := M + 1000 * r) hd hb hs hg.1 (by omega) F 1 v L L' L1 (by omega) (by omega) (hL.mono (by omega)) hS e2
      have s2 : f68_p18_3 F ((d * b : Nat) : Int) ((d * s : Nat) : Int) ((d * g : Nat) : Int) a' i' ((d * r : Nat) : Int) F (sc d v) 1 L' = some L1' := s2
      have hm1 : (d * r + 1) % d ≠ 0 := by rw [Nat.mul_add_mod, Nat.mod_eq_of_lt (by omega)]; omega
      have fin := fun k'' hk => ih k'' (r + 1) L1 L1' L2 (by omega) (by omega) hk (hL1.mono (by omega)) hS1 h
      obtain ⟨k1, rfl⟩ : ∃ k1, k' = k1 + 1 := ⟨k' - 1, by omega⟩
      rw [f68_p9_1, if_pos (decide_eq_true (by omega)), show f68_p13_3 F ((d * b : Nat) : Int) ((d * s : Nat) : Int) ((d * g : Nat) : Int) a' i' ((d * r : Nat) : Int) L' F (-1) ((d * r : Nat) : Int) = _ from s1, Option.bind_some, s2, Option.bind_some, w64_succ (by omega)]
      obtain ⟨k2, rfl⟩ : ∃ k2, k1 = k2 + 1 := ⟨k1 - 1, by omega⟩
      rw [p9_off hF hd hb.2 hg hS1 k2 (d * r + 1) (by omega) hm1]
      rcases (show d = 2 ∨ d = 3 by omega) with rfl | rfl
      · exact fin k2 (by omega)
      · obtain ⟨k3, rfl⟩ : ∃ k3, k2 = k3 + 1 := ⟨k2 - 1, by omega⟩
        rw [p9_off hF hd hb.2 hg hS1 k3 (3 * r + 1 + 1) (by omega) (by omega)]
        exact fin k3 (by omega)
    · have : r = g := by omega
      subst this
      rw [if_neg (by simp)] at h
      cases h
      obtain ⟨k1, rfl⟩ : ∃ k1, k' = k1 + 1 := ⟨k' - 1, by omega⟩
      rw [f68_p9_1, if_neg (by simp)]
      exact ⟨L', rfl, hS⟩
end

theorem f90_sc : ((List.range 2).all fun e => (List.range 10).all fun s => (List.range 10).all fun b => match f90 1100 ((s + 1 : Nat) : Int) ((b + 1 : Nat) : Int) with | some g => f90 1100 (((e + 2) * (s + 1) : Nat) : Int) (((e + 2) * (b + 1) : Nat) : Int) == some (((e + 2 : Nat) : Int) * g) && decide (1 ≤ g ∧ g ≤ 10) | none => false) = true := by decide +kernel
theorem f90_sim {d s b : Nat} (hd : 2 ≤ d ∧ d ≤ 3) (hs : 1 ≤ s ∧ s ≤ 10) (hb : 1 ≤ b ∧ b ≤ 10) : ∃ g : Nat, f90 1100 s b = some (g : Int) ∧ f90 1100 ((d * s : Nat) : Int) ((d * b : Nat) : Int) = some ((d * g : Nat) : Int) ∧ 1 ≤ g ∧ g ≤ 10 := by
  have h := f90_sc
  simp only [List.all_eq_true, List.mem_range] at h
  have h := h (d - 2) (by omega) (s - 1) (by omega) (b - 1) (by omega)
  rw [show s - 1 + 1 = s by omega, show b - 1 + 1 = b by omega, show d - 2 + 2 = d by omega] at h
  split at h
  · rename_i g e
    rw [Bool.and_eq_true, beq_iff_eq, decide_eq_true_eq] at h
    refine ⟨g.toNat, by rw [e]; congr 1; omega, ?_, by omega, by omega⟩
    rw [h.1, Int.natCast_mul]
    congr 2; omega
  · cases h

theorem p5_sim {d b : Nat} {a a' : List Int} (hd : 2 ≤ d ∧ d ≤ 3) (hb : 1 ≤ b ∧ b ≤ 10) (ha : ∀ x ∈ a, 1 ≤ x ∧ x ≤ 10) (h5 : a.length ≤ 5) (ea : a' = a.map fun x => (d : Int) * x) : ∀ (k i : Nat) (L L' : List Int), i ≤ a.length → a.length < k + i → Rg b (30000 * i) L → Sim d b L L' →
    ∃ L2 L2', f68_p5 1100 b a k i L = some L2 ∧ f68_p5 1100 ((d * b : Nat) : Int) a' k i L' = some L2' ∧ Sim d b L2 L2' ∧ Rg b 200000 L2 := by
  have hl : a'.length = a.length := by rw [ea]; simp
  intro k
  induction k with
  | zero => intro i L L' _ h; omega
  | succ k ih =>
    intro i L L' h1 h2 hL hS
    unfold f68_p5
    rw [hl]
    by_cases hi : i < a.length
    · have hs := ha _ (List.getElem_mem hi)
      obtain ⟨s, es⟩ : ∃ s : Nat, a[i] = s := ⟨a[i].toNat, by omega⟩
      have es' : at? a' (i : Int) = some ((d * s : Nat) : Int) := at_of (by rw [ea, List.getElem?_map, List.getElem?_eq_getElem hi, es, Int.natCast_mul]; rfl)
      obtain ⟨g, e1, e1', g1, g2⟩ := f90_sim (s := s) hd (by omega) hb
      obtain ⟨L2, e2, hL2⟩ := p9r_eq (F := 1100) (s := s) (d := g) (a := a) (i := (i : Int)) (M := 30000 * i) (by omega) (by omega) (by omega) (by omega) (by omega) 1100 0 L (by omega) (by omega) (hL.mono (by omega))
      have hdg : d * g ≤ 3 * 10 := Nat.mul_le_mul hd.2 g2
      obtain ⟨L2', e3, hS2⟩ := p9_sim (F := 1100) (s := s) (a := a) (a' := a') (i := (i : Int)) (i' := (i : Int)) (M := 30000 * i) (by omega) hd hb (by omega) (by omega) (by omega) 1100 1100 0 L L' L2 (by omega) (by omega) (by omega) (hL.mono (by omega)) hS e2
      rw [if_pos (by simp; omega), if_pos (by simp; omega), at_get hi, Option.bind_some, es', Option.bind_some, es, e1, Option.bind_some, e1', Option.bind_some, show f68_p9_1 1100 b s g a i 1100 0 L = _ from e2, Option.bind_some,
        show f68_p9_1 1100 ((d * b : Nat) : Int) ((d * s : Nat) : Int) ((d * g : Nat) : Int) a' i 1100 0 L' = _ from e3, Option.bind_some, w64_succ (by omega)]
      exact ih (i + 1) L2 L2' (by omega) (by omega) (hL2.mono (by omega)) hS2
    · rw [if_neg (by simp; omega), if_neg (by simp; omega)]
      exact ⟨L, L', rfl, rfl, hS, hL.mono (by omega)⟩

theorem p1s_eq {F b : Nat} {a : List Int} (hb : b ≤ 30) : ∀ (k x : Nat) (h : Nat → Int), x ≤ b → b < k + x → (∀ y, y < x → h y = -1) → f68_p1 F a b k x (tab b h) = some (tab b fun _ => -1) := by
  intro k
  induction k with
  | zero => intro x h _ h1; omega
  | succ k ih =>
    intro x h h1 h2 h3
    unfold f68_p1
    rw [Int.toNat_natCast]
    by_cases hx : x < b
    · rw [if_pos (by simp; omega), req_pos (by omega), Int.toNat_natCast, Nat.zero_add, req_pos (by rw [tab_len]; omega), tab_set, w64_succ (by omega)]
      refine ih (x + 1) _ (by omega) (by omega) fun y hy => ?_
      by_cases he : y = x
      · rw [if_pos he]
      · rw [if_neg he]; exact h3 y (by omega)
    · rw [if_neg (by simp; omega)]
      exact congrArg some (tab_congr fun y hy => h3 y (by omega))

theorem f68_sim {d b : Nat} {a : List Int} (hd : 2 ≤ d ∧ d ≤ 3) (hb : 1 ≤ b ∧ b ≤ 10) (ha : ∀ x ∈ a, 1 ≤ x ∧ x ≤ 10) (h5 : a.length ≤ 5) :
    ∃ L L', f68 1100 a b = some L ∧ f68 1100 (a.map fun x => (d : Int) * x) ((d * b : Nat) : Int) = some L' ∧ Sim d b L L' ∧ Rg b 200000 L := by
  have hdb : d * b ≤ 3 * 10 := Nat.mul_le_mul hd.2 hb.2
  have hdb0 : 0 < d * b := Nat.mul_pos (by omega) (by omega)
  have q1 := p1s_eq (F := 1100) (a := a) (b := b) (by omega) 1100 0 (fun _ => 0) (by omega) (by omega) (fun y h => by omega)
  have q2 := p1s_eq (F := 1100) (a := a.map fun x => (d : Int) * x) (b := d * b) (by omega) 1100 0 (fun _ => 0) (by omega) (by omega) (fun y h => by omega)
  have hS0 : Sim d b (tab b fun _ => -1) (tab (d * b) fun _ => -1) := ⟨tab_len .., tab_len .., fun i v h => by
    have hi : i < b := by
      rcases Nat.lt_or_ge i b with h2 | h2
      · exact h2
      · rw [List.getElem?_eq_none (by rw [tab_len]; exact h2)] at h; cases h
    rw [tab_get _ hi] at h
    cases h
    rw [tab_get _ (Nat.mul_lt_mul_of_pos_left hi (by omega))]; rfl, fun j hj _ => tab_get _ hj⟩
  have hS1 := hS0.set hd.1 (i := 0) (by omega) 0
  have e0 : sc d 0 = 0 := by rw [sc_pos (by decide)]; simp
  rw [e0, Nat.mul_zero] at hS1
  have hR : Rg b (30000 * ((0 : Nat) : Int)) ((tab b fun _ => -1).set 0 0) := Rg.set ⟨tab_len .., fun x hx => by
    obtain ⟨i, _, rfl⟩ := List.mem_map.1 hx
    omega⟩ 0 (by omega)
  obtain ⟨L, L', r1, r2, r3, r4⟩ := p5_sim hd hb ha h5 rfl 1100 0 _ _ (by omega) (by omega) hR hS1
  refine ⟨L, L', ?_, ?_, r3, r4⟩
  · have hlen := r3.len
    unfold f68
    rw [req_pos (by omega), Int.toNat_natCast, tab_zero, show f68_p1 1100 a b 1100 0 (tab b fun _ => 0) = _ from q1, Option.bind_some, req_pos (by omega), req_pos (by rw [tab_len]; omega), show f68_p5 1100 b a 1100 0 ((tab b fun _ => -1).set 0 0) = _ from r1, Option.bind_some, req_pos (by omega), ← hlen, take0]
  · have hlen := r3.len'
    unfold f68
    rw [req_pos (by omega), Int.toNat_natCast, tab_zero, show f68_p1 1100 (a.map fun x => (d : Int) * x) ((d * b : Nat) : Int) 1100 0 (tab (d * b) fun _ => 0) = _ from q2, Option.bind_some, req_pos (by omega), req_pos (by rw [tab_len]; omega), show f68_p5 1100 ((d * b : Nat) : Int) (a.map fun x => (d : Int) * x) 1100 0 ((tab (d * b) fun _ => -1).set 0 0) = _ from r2, Option.bind_some, req_pos (by omega), ← hlen, take0]

end Go.Gh.Pack
