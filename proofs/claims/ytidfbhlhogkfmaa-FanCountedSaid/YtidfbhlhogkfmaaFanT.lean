/- A fan checked: what the reference and the program find is the same; what the program keeps of a fan. -/
import Derived.Test.YtidfbhlhogkfmaaFanS
namespace Go.Gh.Fan
set_option linter.unusedVariables false
set_option linter.unusedSimpArgs false

def dist (w : Bool) (k : Int) : Int := if w then k + 1 else k

/-- What is wrong with the places of a kind. -/
def errP (d : Int) (ps : List Int) : Int :=
  if 2 < ps.length then 3 else if ps.length = 1 then 21 else if ps.length = 2 ∧ ps.getLastD 0 ≠ ps.headD (-1) + d then 13 else 0

/-- The first thing that is wrong with so many kinds from one on. -/
def errs (w : Bool) (l : List Int) : Nat → Int → Int
  | 0, _ => 0
  | m + 1, k => if errP (dist w k) (posF 0 l k) = 0 then errs w l m (k + 1) else errP (dist w k) (posF 0 l k)

def inR (n : Int) (l : List Int) : Bool := l.all fun x => decide (0 ≤ x ∧ x ≤ n)

def code (n : Int) (w : Bool) (l : List Int) : Int :=
  if 1 ≤ n ∧ n ≤ 8 then if (l.length : Int) = 2 * n then if inR n l = true then errs w l n.toNat 1 else 2 else 5 else 1

theorem two_of {ps : List Int} (h : ps.length = 2) : ∃ a b, ps = [a, b] := by
  match ps, h with
  | [a, b], _ => exact ⟨a, b, rfl⟩

/-- What the program keeps of the plumes up to a place. -/
def atv (p : List Int) (j : Nat) : Int := (p[j]?).getD 0
def fstv (p : List Int) (k : Nat) : Int := (posF 0 p k).headD (-1)
def cntv (p : List Int) (k : Nat) : Int := ((posF 0 p k).length : Int)
def lstv (p : List Int) (k : Nat) : Int := (posF 0 p k).getLastD 0

theorem pos_snoc (p : List Int) (x k : Int) : posF 0 (p ++ [x]) k = posF 0 p k ++ (if x = k then [(p.length : Int)] else []) := by
  rw [posF_append]; simp [posF]

theorem f57_p4_eq (F : Nat) (n : Int) (w : Bool) (l : List Int) (a : Int) (b : Bool) (c : List Int) : ∀ (m i f : Nat), m < f → i + m = 9 →
    f57_p4 F n w l f i a b c (tab 9 (fun j => if j < i then -1 else 0)) = some (a, b, c, tab 9 (fun _ => -1))
  | 0, i, f + 1, _, h => by
    obtain rfl : i = 9 := by omega
    simp only [f57_p4]
    rw [tab_congr (g := fun _ => -1) (fun i h => by simp [h])]
    simp
  | m + 1, i, f + 1, hf, h => by
    have hlt : (i : Int) < 9 := by omega
    have ih := f57_p4_eq F n w l a b c m (i + 1) f (by omega) (by omega)
    simp only [f57_p4, decide_eq_true hlt, if_true, Int.toNat_natCast, Nat.zero_add, Nat.mul_one, w64_nat (show i < 1000000 by omega), tab_set]
    rw [req_pos (by omega), req_pos (by omega)]
    rw [tab_congr (g := fun j => if j < i + 1 then -1 else 0) (fun j _ => by
      by_cases e : j = i
      · simp [e]
      · simp only [e, if_false]; split <;> split <;> omega), ih]

theorem f58_eq (F : Nat) (a x b : Int) : f58 F a x b = some (decide (a ≤ x ∧ x ≤ b)) := by
  unfold f58
  by_cases h : a ≤ x
  · simp [h]
  · simp [h]

theorem f57_p8_eq (F : Nat) (n : Int) (w : Bool) (hn : n ≤ 8) (a : Int) (b : Bool) : ∀ (s p : List Int) (f : Nat), s.length < f → p.length + s.length ≤ 16 →
    f57_p8 F (p ++ s) n w f p.length a b (tab 16 (atv p)) (tab 9 (fstv p)) (tab 9 (cntv p)) (tab 9 (lstv p)) =
      some (if inR n s = true then .c1 a b (tab 16 (atv (p ++ s))) (tab 9 (fstv (p ++ s))) (tab 9 (cntv (p ++ s))) (tab 9 (lstv (p ++ s))) else .c0)
  | [], p, f + 1, _, _ => by simp [f57_p8, inR]
  | x :: s, p, f + 1, hf, hl => by
    simp only [List.length_cons] at hf hl
    have hlt : ((p.length : Int) < (((p ++ x :: s).length : Nat) : Int)) := by simp; omega
    have ih := f57_p8_eq F n w hn a b s (p ++ [x]) f
    simp only [List.append_assoc, List.singleton_append, List.length_append, List.length_singleton] at ih
    simp only [f57_p8, decide_eq_true hlt, if_true, at_mid, Option.bind_some, f58_eq]
    by_cases h : 0 ≤ x ∧ x ≤ n
    · obtain ⟨m, rfl⟩ := Int.eq_ofNat_of_zero_le h.1
      have hm : m < 9 := by omega
      have hc := posF_len m p 0
      have hcv : cntv p m + 1 = cntv (p ++ [(m : Int)]) m := by simp [cntv, pos_snoc]
      have hw : w64 (cntv p m + 1) = cntv (p ++ [(m : Int)]) m := by rw [← hcv, w64_in (by unfold cntv; omega)]
      simp only [h, true_and, and_self, decide_true, if_true, Int.toNat_natCast, Nat.zero_add, Nat.mul_one, tab_set, tab_get hm, Option.bind_some, hw, f57_p12_1, w64_nat (show p.length < 1000000 by omega)]
      rw [req_pos (by omega), req_pos (by omega)]
      have e1 : tab 9 (fun i => if i = m then cntv (p ++ [(m : Int)]) m else cntv p i) = tab 9 (cntv (p ++ [(m : Int)])) := tab_congr fun i _ => by
        by_cases e : i = m
        · simp [e]
        · have : ¬ (m : Int) = (i : Int) := by omega
          simp [e, cntv, pos_snoc, this]
      have e2 : tab 9 (fun i => if i = m then (p.length : Int) else lstv p i) = tab 9 (lstv (p ++ [(m : Int)])) := tab_congr fun i _ => by
        by_cases e : i = m
        · simp [e, lstv, pos_snoc]
        · have : ¬ (m : Int) = (i : Int) := by omega
          simp [e, lstv, pos_snoc, this]
      have e3 : tab 16 (fun i => if i = p.length then (m : Int) else atv p i) = tab 16 (atv (p ++ [(m : Int)])) := tab_congr fun i _ => by
        unfold atv
        by_cases e : i = p.length
        · simp [e]
        · simp only [e, if_false]
          rcases Nat.lt_or_ge i p.length with g | g
          · rw [List.getElem?_append_left g]
          · rw [List.getElem?_eq_none (by omega), List.getElem?_eq_none (by simp; omega)]
      have e4 : (if (cntv (p ++ [(m : Int)]) m == 1) = true then some (tab 9 (fun i => if i = m then (p.length : Int) else fstv p i)) else some (tab 9 (fstv p))) = some (tab 9 (fstv (p ++ [(m : Int)]))) := by
        by_cases e : posF 0 p m = []
        · have : (cntv (p ++ [(m : Int)]) m == 1) = true := by simp [cntv, pos_snoc, e]
          rw [if_pos this]
          congr 1
          apply tab_congr
          intro i _
          by_cases g : i = m
          · simp [g, fstv, pos_snoc, e]
          · have : ¬ (m : Int) = (i : Int) := by omega
            simp [g, fstv, pos_snoc, this]
        · have : ¬ (cntv (p ++ [(m : Int)]) m == 1) = true := by
            simp only [cntv, pos_snoc, if_true, List.length_append, List.length_singleton, beq_iff_eq]
            intro g
            exact e (List.length_eq_zero_iff.1 (by omega))
          rw [if_neg this]
          congr 1
          apply tab_congr
          intro i _
          by_cases g : i = m
          · subst g
            obtain ⟨y, ys, hy⟩ := List.exists_cons_of_ne_nil e
            simp [fstv, pos_snoc, hy]
          · have : ¬ (m : Int) = (i : Int) := by omega
            simp [fstv, pos_snoc, this]
      simp only [if_true, e1]
      rw [req_pos (by omega), req_pos (by omega), e4]
      simp only [Option.bind_some]
      rw [req_pos (by omega), req_pos (by omega), e2, e3, ih (by omega) (by omega)]
      simp [inR, h]
    · simp [h, inR]

theorem f77_eq {F : Nat} {k : Int} {w : Bool} (h : 0 ≤ k ∧ k ≤ 1000) : f77 F k w = some (dist w k) := by
  unfold f77 f77_p0 dist
  cases w
  · rfl
  · simp only [if_true, Option.bind_some]; rw [w64_in (by omega)]

theorem f70_eq {F : Nat} {k : Nat} {w : Bool} {a : Int} {c : List Int} {f : Nat → Int} (hk : k < 9) (hf : -1 ≤ f k ∧ f k ≤ 1000) : f70 F k a w c (tab 9 f) = some (f k + dist w k) := by
  unfold f70
  rw [req_pos (by omega)]
  simp only [Int.toNat_natCast, Nat.zero_add, Nat.mul_one, tab_get hk, Option.bind_some]
  rw [f77_eq (by omega)]
  simp only [Option.bind_some]
  rw [w64_in (by unfold dist; split <;> omega)]

theorem fstv_bound (l : List Int) (hl : l.length ≤ 1000) (k : Nat) : -1 ≤ fstv l k ∧ fstv l k ≤ 1000 := by
  unfold fstv
  cases h : posF 0 l k with
  | nil => simp
  | cons y ys =>
    have := posF_mem (l := l) (i := 0) (j := y) (k := k) (by rw [h]; simp)
    simp only [List.headD_cons]; omega

theorem f57_p14_eq {l : List Int} (F : Nat) (hl : l.length ≤ 1000) (n : Int) (w : Bool) (hn : n ≤ 8) (a : Int) (c : List Int) : ∀ (m k : Nat) (f : Nat), m < f → 1 ≤ k → (k : Int) + m = n + 1 →
    f57_p14 F n w l a w c (tab 9 (fstv l)) (tab 9 (cntv l)) (tab 9 (lstv l)) f k = some (if errs w l m k = 0 then .c1 else .c0 (errs w l m k))
  | 0, k, f + 1, _, h1, hk => by
    have : ¬ (k : Int) ≤ n := by omega
    simp [f57_p14, errs, this]
  | m + 1, k, f + 1, hf, h1, hk => by
    have hlt : (k : Int) ≤ n := by omega
    have h9 : k < 9 := by omega
    have ih := f57_p14_eq F hl n w hn a c m (k + 1) f (by omega) (by omega) (by omega)
    simp only [f57_p14, decide_eq_true hlt, if_true, Int.toNat_natCast, Nat.zero_add, Nat.mul_one, tab_get h9, Option.bind_some, w64_nat (show k < 1000000 by omega), f70_eq h9 (fstv_bound l hl k), errs, errP]
    rw [req_pos (by omega)]
    have hb : fstv l k = (posF 0 l k).headD (-1) := rfl
    have hc : lstv l k = (posF 0 l k).getLastD 0 := rfl
    have hd : cntv l k = ((posF 0 l k).length : Int) := rfl
    rw [hb, hc, hd, ih]
    obtain ⟨ps, hp⟩ : ∃ ps, posF 0 l k = ps := ⟨_, rfl⟩
    simp only [hp]
    by_cases c1 : 2 < ps.length
    · have : ((ps.length : Nat) : Int) > 2 := by omega
      simp [c1, this]
    · have c1' : ¬ ((ps.length : Nat) : Int) > 2 := by omega
      by_cases c2 : ps.length = 1
      · simp [c1', c2]
      · have c2' : ¬ ((ps.length : Nat) : Int) = 1 := by omega
        by_cases c3 : ps.length = 2
        · obtain ⟨y, z, rfl⟩ := two_of c3
          by_cases c4 : z = y + dist w k
          · simp [c4]
          · simp [c4]
        · have c3' : ¬ ((ps.length : Nat) : Int) = 2 := by omega
          simp [c1', c2', c3', c1, c2, c3]

theorem f57_eq {F : Nat} {l : List Int} (hF : l.length + 20 < F) (hl : l.length ≤ 1000) (n : Int) (w : Bool) :
    f57 F n w l = some (if code n w l = 0 then .c1 0 n w (tab 16 (atv l)) (tab 9 (fstv l)) else .c0 (code n w l)) := by
  unfold f57 code
  rw [f58_eq]
  by_cases h1 : 1 ≤ n ∧ n ≤ 8
  · simp only [h1, and_self, decide_true, if_true, Option.bind_some]
    rw [w64_in (n := 2 * n) (by omega)]
    by_cases h2 : (l.length : Int) = 2 * n
    · have h3 := f57_p4_eq F n w l n w (List.replicate 16 0) 9 0 F (by omega) (by omega)
      rw [tab_congr (g := fun _ => 0) (fun i _ => by simp), ← tab_rep] at h3
      simp only [Int.natCast_zero] at h3
      have h4 := f57_p8_eq F n w h1.2 n w l [] F (by omega) (by simp; omega)
      simp only [List.nil_append, List.length_nil] at h4
      rw [show tab 16 (atv []) = List.replicate 16 0 by rw [tab_rep]; rfl, show tab 9 (fstv []) = tab 9 (fun _ => -1) from rfl, show tab 9 (cntv []) = List.replicate 9 0 by rw [tab_rep]; rfl, show tab 9 (lstv []) = List.replicate 9 0 by rw [tab_rep]; rfl] at h4
      simp only [Int.natCast_zero] at h4
      simp only [h2, bne_self_eq_false, h3, Option.bind_some, h4]
      by_cases h5 : inR n l = true
      · have h6 := f57_p14_eq (l := l) F hl n w h1.2 n (tab 16 (atv l)) n.toNat 1 F (by omega) (by omega) (by omega)
        simp only [Int.natCast_one] at h6
        simp only [h5, if_true, Option.bind_some, h6]
        by_cases h7 : errs w l n.toNat 1 = 0
        · simp [h7]
        · simp [h7]
      · simp [h5]
    · simp [h2]
  · simp [h1]

end Go.Gh.Fan
