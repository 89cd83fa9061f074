/- Bunch: the reference's rows say how many divisions there are. -/
import Derived.Test.YtegnegeoodkpcaaBunchS
namespace Go.Gh.Bunch
set_option linter.unusedVariables false
set_option linter.unusedSimpArgs false

def tab (n : Nat) (f : Nat → Int) : List Int := (List.range n).map f
theorem tab_len (n : Nat) (f : Nat → Int) : (tab n f).length = n := by simp [tab]
theorem tab_get {n k : Nat} {f : Nat → Int} (h : k < n) : (tab n f)[k]? = some (f k) := by simp [tab, h]
theorem tab_set {n k : Nat} {f : Nat → Int} {v : Int} : (tab n f).set k v = tab n (fun i => if i = k then v else f i) := by
  apply List.ext_getElem
  · simp [tab]
  · intro i h1 h2
    simp only [tab, List.getElem_set, List.getElem_map, List.getElem_range]
    by_cases h : k = i
    · rw [if_pos h, if_pos h.symm]
    · rw [if_neg h, if_neg (fun hh => h hh.symm)]
theorem tab_congr {n : Nat} {f g : Nat → Int} (h : ∀ i < n, f i = g i) : tab n f = tab n g := by
  unfold tab
  exact List.map_congr_left fun i hi => h i (List.mem_range.1 hi)

theorem c_low {k j : Nat} (hk : k ≤ 30) (hj : j ≤ 30) (h0 : 0 < j) (h : k < j) : c k j = c k (j - 1) := by
  by_cases hk0 : k = 0
  · subst hk0; rw [(c_look hk hj).2.1 rfl, (c_look hk (show j - 1 ≤ 30 by omega)).2.1 rfl]
  · exact ((c_look hk hj).2.2.2.1 (by omega) h).1

theorem f56_in {F n : Nat} {m : Int} {j : Nat} (hn : n ≤ 30) (hj : j ≤ 30) (hj0 : 0 < j) : ∀ (k i : Nat), j ≤ i → i ≤ n + 1 → n + 1 < k + i →
    f56_p5_1 F n m j k i (tab (n + 1) fun k => if k < i then c k j else c k (j - 1)) = some (tab (n + 1) fun k => c k j) := by
  intro k
  induction k with
  | zero => intro i _ _ h; omega
  | succ k ih =>
    intro i h1 h2 h3
    unfold f56_p5_1
    by_cases hi : i ≤ n
    · have L := c_look (show i ≤ 30 by omega) hj
      have L1 := c_look (show i ≤ 30 by omega) (show j - 1 ≤ 30 by omega)
      have L2 := c_look (show i - j ≤ 30 by omega) hj
      have w1 : w64 ((n : Int) + 1) = ((n + 1 : Nat) : Int) := by rw [w64_in (by omega)]; omega
      have w2 : w64 ((i : Int) - (j : Int)) = ((i - j : Nat) : Int) := by rw [w64_in (by omega)]; omega
      have w3 : w64 ((i : Int) + 1) = ((i + 1 : Nat) : Int) := by rw [w64_in (by omega)]; omega
      rw [if_pos (by simp; omega), w1, w2, w3]
      simp only [Int.toNat_natCast, Nat.zero_add]
      rw [req_pos (by omega), tab_get (by omega), Option.bind_some, req_pos (by omega), tab_get (by omega), Option.bind_some, req_pos (by rw [tab_len]; omega)]
      rw [if_neg (by omega : ¬ i < i), if_pos (by omega : i - j < i), w64_in (by omega), ← L.2.2.2.2 hj0 h1, tab_set]
      rw [← ih (i + 1) (by omega) (by omega) (by omega)]
      congr 1
      refine tab_congr fun a ha => ?_
      by_cases e1 : a = i
      · rw [if_pos e1, if_pos (by omega), e1]
      · rw [if_neg e1]
        by_cases e2 : a < i
        · rw [if_pos e2, if_pos (by omega)]
        · rw [if_neg e2, if_neg (by omega)]
    · rw [if_neg (by simp; omega)]
      congr 1
      exact tab_congr fun a ha => by rw [if_pos (by omega)]

theorem f56_out {F n m : Nat} (hF : 100 ≤ F) (hn : n ≤ 30) (hm : m ≤ 30) : ∀ (k j : Nat), 0 < j → j ≤ m + 1 → m + 1 < k + j →
    f56_p1 F n m k j (tab (n + 1) fun k => c k (j - 1)) = some (tab (n + 1) fun k => c k m) := by
  intro k
  induction k with
  | zero => intro j _ _ h; omega
  | succ k ih =>
    intro j h0 h1 h2
    unfold f56_p1
    by_cases hj : j ≤ m
    · rw [if_pos (by simp; omega)]
      have e : (tab (n + 1) fun k => c k (j - 1)) = tab (n + 1) fun k => if k < j then c k j else c k (j - 1) := tab_congr fun a ha => by
        by_cases h : a < j
        · rw [if_pos h, c_low (by omega) (by omega) h0 h]
        · rw [if_neg h]
      have w3 : w64 ((j : Int) + 1) = ((j + 1 : Nat) : Int) := by rw [w64_in (by omega)]; omega
      by_cases hjn : j ≤ n + 1
      · rw [e, f56_in hn (by omega) h0 F j (Nat.le_refl _) hjn (by omega), Option.bind_some, w3]
        exact ih (j + 1) (by omega) (by omega) (by omega)
      · have e2 : f56_p5_1 F n m j F j (tab (n + 1) fun k => c k (j - 1)) = some (tab (n + 1) fun k => c k (j - 1)) := by
          obtain ⟨G, rfl⟩ : ∃ G, F = G + 1 := ⟨F - 1, by omega⟩
          unfold f56_p5_1
          rw [if_neg (by simp; omega)]
        rw [e2, Option.bind_some, w3]
        rw [show (tab (n + 1) fun k => c k (j - 1)) = tab (n + 1) fun k => c k (j + 1 - 1) from tab_congr fun a ha => (c_low (by omega) (by omega) h0 (by omega)).symm]
        exact ih (j + 1) (by omega) (by omega) (by omega)
    · rw [if_neg (by simp; omega)]
      rw [show j - 1 = m by omega]

theorem f56_eq {F n m : Nat} (hF : 100 ≤ F) (hn : n ≤ 30) (hm : m ≤ 30) : f56 F n m = some (c n m) := by
  have w1 : w64 ((n : Int) + 1) = ((n + 1 : Nat) : Int) := by rw [w64_in (by omega)]; omega
  simp only [f56, w1, Int.toNat_natCast, Nat.zero_add]
  rw [req_pos (by omega), req_pos (by omega), req_pos (by simp)]
  have e : (List.replicate (n + 1) (0 : Int)).set 0 1 = tab (n + 1) fun k => c k (1 - 1) := by
    rw [show List.replicate (n + 1) (0 : Int) = tab (n + 1) fun _ => 0 by rw [tab, List.map_const', List.length_range], tab_set]
    refine tab_congr fun a ha => ?_
    by_cases h : a = 0
    · rw [if_pos h, h, (c_look (n := 0) (m := 1 - 1) (by omega) (by omega)).2.1 rfl]
    · rw [if_neg h, (c_look (n := a) (m := 1 - 1) (by omega) (by omega)).2.2.1 (by omega) rfl]
  have e2 := f56_out (F := F) hF hn hm F 1 (by omega) (by omega) (by omega)
  rw [e, show (1 : Int) = ((1 : Nat) : Int) from rfl, e2, Option.bind_some, req_pos (by omega), tab_get (by omega)]
  rfl

theorem f55_eq {F : Nat} {x a b : Int} : f55 F x a b = some (decide (a ≤ x ∧ x ≤ b)) := by
  unfold f55
  by_cases h : a ≤ x <;> simp [h]

theorem f16_eq {F : Nat} (hF : 100 ≤ F) (x : Int) : f16 F x = some (cc x (if 0 > x then 0 else x)) := by
  simp only [f16, f55_eq, Option.bind_some, decide_eq_true_eq, cc]
  by_cases h1 : 0 ≤ x ∧ x ≤ 30
  · have e0 : (if 0 > x then 0 else x) = x := if_neg (by omega)
    rw [e0, if_pos h1, if_pos ⟨h1.1, h1.2, h1⟩]
    have e := f56_eq (F := F) (n := x.toNat) (m := x.toNat) hF (by omega) (by omega)
    rw [Int.toNat_of_nonneg h1.1] at e
    rw [e]; rfl
  · rw [if_neg h1, if_neg (fun h => h1 ⟨h.1, h.2.1⟩)]

end Go.Gh.Bunch
