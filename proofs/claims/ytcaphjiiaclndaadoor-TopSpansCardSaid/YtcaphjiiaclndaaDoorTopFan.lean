/- TopFan: fans, after what was shown of the program of chapter 4. -/
import Derived.Test.YtcaphjiiaclndaaDoorTop7N0
namespace Go.Gh.Top.Fnn
set_option linter.unusedVariables false
set_option linter.unusedSimpArgs false

theorem w64_in {n : Int} (h : -9223372036854775808 ≤ n ∧ n < 9223372036854775808) : w64 n = n := by
 unfold w64 IntKind.wrap
 simp [IntKind.bits, IntKind.signed]
 split <;> omega

theorem w64_nat {n : Nat} (h : n < 1000000) : w64 ((n : Int) + 1) = ((n + 1 : Nat) : Int) := by
 rw [w64_in (by omega)]; omega

theorem at_mid {α : Type} (p : List α) (x : α) (s : List α) : at? (p ++ x :: s) ((p.length : Nat) : Int) = some x := by
 unfold at?; simp

theorem at_of {α : Type} {l : List α} {i : Nat} {x : α} (h : l[i]? = some x) : at? l ((i : Nat) : Int) = some x := by
 unfold at?; simp [h]

theorem req_pos {α : Type} {p : Prop} [Decidable p] {x : Option α} (h : p) : req p x = x := by unfold req; rw [if_pos h]

def tab (n : Nat) (f : Nat → Int) : List Int := (List.range n).map f

theorem tab_len (n : Nat) (f : Nat → Int) : (tab n f).length = n := by simp [tab]

theorem tab_get {n k : Nat} {f : Nat → Int} (h : k < n) : (tab n f)[k]? = some (f k) := by simp [tab, h]

theorem tab_set {n k : Nat} {f : Nat → Int} {v : Int} : (tab n f).set k v = tab n (fun i => if i = k then v else f i) := by
 apply List.ext_getElem
 ·simp [tab]
 ·intro i h1 h2
  simp only [tab, List.length_map, List.length_range] at h2
  simp only [tab, List.getElem_set, List.getElem_map, List.getElem_range]
  by_cases h : k = i
  ·subst h; simp
  ·rw [if_neg h, if_neg (fun e => h e.symm)]

theorem tab_congr {n : Nat} {f g : Nat → Int} (h : ∀ i, i < n → f i = g i) : tab n f = tab n g := by
 apply List.map_congr_left
 intro i hi; exact h i (List.mem_range.1 hi)

theorem tab_rep (n : Nat) (v : Int) : List.replicate n v = tab n (fun _ => v) := by
 apply List.ext_getElem
 ·simp [tab]
 ·intro i h1 h2; simp [tab]

def posF : Int → List Int → Int → List Int
 | _, [], _ => []
 | i, x :: xs, k => if x = k then i :: posF (i + 1) xs k else posF (i + 1) xs k

theorem posF_append (k : Int) : ∀ (p s : List Int) (i : Int), posF i (p ++ s) k = posF i p k ++ posF (i + p.length) s k
 | [], s, i => by simp [posF]
 | x :: p, s, i => by
  have ih := posF_append k p s (i + 1)
  have e : i + 1 + (p.length : Int) = i + ((x :: p).length : Int) := by simp; omega
  rw [e] at ih
  simp only [List.cons_append, posF]
  split <;> simp [ih]

theorem posF_len (k : Int) : ∀ (l : List Int) (i : Int), (posF i l k).length ≤ l.length
 | [], _ => by simp [posF]
 | x :: l, i => by
  have := posF_len k l (i + 1)
  simp only [posF]; split <;> simp <;> omega

theorem posF_mem {k : Int} : ∀ {l : List Int} {i j : Int}, j ∈ posF i l k → i ≤ j ∧ j < i + l.length ∧ l[(j - i).toNat]? = some k
 | [], _, _, h => by simp [posF] at h
 | x :: l, i, j, h => by
  have hr : j ∈ posF (i + 1) l k → i ≤ j ∧ j < i + ((x :: l).length : Nat) ∧ (x :: l)[(j - i).toNat]? = some k := fun h => by
   obtain ⟨h1, h2, h3⟩ := posF_mem h
   refine ⟨by omega, by simp; omega, ?_⟩
   rw [show (j - i).toNat = (j - (i + 1)).toNat + 1 by omega]
   simpa using h3
  simp only [posF] at h
  split at h
  ·rcases List.mem_cons.1 h with e | h
   ·subst e; simp; omega
   ·exact hr h
  ·exact hr h

theorem posF_of {k : Int} : ∀ {l : List Int} {i : Int} {n : Nat}, l[n]? = some k → i + (n : Int) ∈ posF i l k
 | [], _, _, h => by simp at h
 | x :: l, i, 0, h => by simp at h; subst h; simp [posF]
 | x :: l, i, n + 1, h => by
  have := posF_of (i := i + 1) (n := n) (l := l) (k := k) (by simpa using h)
  simp only [posF]
  rw [show i + ((n + 1 : Nat) : Int) = i + 1 + (n : Int) by omega]
  split
  ·exact List.mem_cons_of_mem _ this
  ·exact this

def dist (w : Bool) (k : Int) : Int := if w then k + 1 else k

def errP (d : Int) (ps : List Int) : Int :=
 if 2 < ps.length then 3 else if ps.length = 1 then 21 else if ps.length = 2 ∧ ps.getLastD 0 ≠ ps.headD (-1) + d then 13 else 0

def errs (w : Bool) (l : List Int) : Nat → Int → Int
 | 0, _ => 0
 | m + 1, k => if errP (dist w k) (posF 0 l k) = 0 then errs w l m (k + 1) else errP (dist w k) (posF 0 l k)

def inR (n : Int) (l : List Int) : Bool := l.all fun x => decide (0 ≤ x ∧ x ≤ n)

def code (n : Int) (w : Bool) (l : List Int) : Int :=
 if 1 ≤ n ∧ n ≤ 8 then if (l.length : Int) = 2 * n then if inR n l = true then errs w l n.toNat 1 else 2 else 5 else 1

theorem two_of {ps : List Int} (h : ps.length = 2) : ∃ a b, ps = [a, b] := by
 match ps, h with
 | [a, b], _ => exact ⟨a, b, rfl⟩

def atv (p : List Int) (j : Nat) : Int := (p[j]?).getD 0

def fstv (p : List Int) (k : Nat) : Int := (posF 0 p k).headD (-1)

def cntv (p : List Int) (k : Nat) : Int := ((posF 0 p k).length : Int)

def lstv (p : List Int) (k : Nat) : Int := (posF 0 p k).getLastD 0

theorem pos_snoc (p : List Int) (x k : Int) : posF 0 (p ++ [x]) k = posF 0 p k ++ (if x = k then [(p.length : Int)] else []) := by
 rw [posF_append]; simp [posF]

theorem f108_p4_eq (F : Nat) (n : Int) (w : Bool) (l : List Int) (a : Int) (b : Bool) (c : List Int) : ∀ (m i f : Nat), m < f → i + m = 9 →
  f108_p4 F n w l f i a b c (tab 9 (fun j => if j < i then -1 else 0)) = some (a, b, c, tab 9 (fun _ => -1))
 | 0, i, f + 1, _, h => by
  obtain rfl : i = 9 := by omega
  simp only [f108_p4]
  rw [tab_congr (g := fun _ => -1) (fun i h => by simp [h])]
  simp
 | m + 1, i, f + 1, hf, h => by
  have hlt : (i : Int) < 9 := by omega
  have ih := f108_p4_eq F n w l a b c m (i + 1) f (by omega) (by omega)
  simp only [f108_p4, decide_eq_true hlt, if_true, Int.toNat_natCast, Nat.zero_add, Nat.mul_one, w64_nat (show i < 1000000 by omega), tab_set]
  rw [req_pos (by omega), req_pos (by omega)]
  rw [tab_congr (g := fun j => if j < i + 1 then -1 else 0) (fun j _ => by
   by_cases e : j = i
   ·simp [e]
   ·simp only [e, if_false]; split <;> split <;> omega), ih]

theorem f77_eq (F : Nat) (a x b : Int) : f77 F a x b = some (decide (a ≤ x ∧ x ≤ b)) := by
 unfold f77
 by_cases h : a ≤ x
 ·simp [h]
 ·simp [h]

theorem f108_p8_eq (F : Nat) (n : Int) (w : Bool) (hn : n ≤ 8) (a : Int) (b : Bool) : ∀ (s p : List Int) (f : Nat), s.length < f → p.length + s.length ≤ 16 →
  f108_p8 F (p ++ s) n w f p.length a b (tab 16 (atv p)) (tab 9 (fstv p)) (tab 9 (cntv p)) (tab 9 (lstv p)) =
   some (if inR n s = true then .c1 a b (tab 16 (atv (p ++ s))) (tab 9 (fstv (p ++ s))) (tab 9 (cntv (p ++ s))) (tab 9 (lstv (p ++ s))) else .c0)
 | [], p, f + 1, _, _ => by simp [f108_p8, inR]
 | x :: s, p, f + 1, hf, hl => by
  simp only [List.length_cons] at hf hl
  have hlt : ((p.length : Int) < (((p ++ x :: s).length : Nat) : Int)) := by simp; omega
  have ih := f108_p8_eq F n w hn a b s (p ++ [x]) f
  simp only [List.append_assoc, List.singleton_append, List.length_append, List.length_singleton] at ih
  simp only [f108_p8, decide_eq_true hlt, if_true, at_mid, Option.bind_some, f77_eq]
  by_cases h : 0 ≤ x ∧ x ≤ n
  ·obtain ⟨m, rfl⟩ := Int.eq_ofNat_of_zero_le h.1
   have hm : m < 9 := by omega
   have hc := posF_len m p 0
   have hcv : cntv p m + 1 = cntv (p ++ [(m : Int)]) m := by simp [cntv, pos_snoc]
   have hw : w64 (cntv p m + 1) = cntv (p ++ [(m : Int)]) m := by rw [← hcv, w64_in (by unfold cntv; omega)]
   simp only [h, true_and, and_self, decide_true, if_true, Int.toNat_natCast, Nat.zero_add, Nat.mul_one, tab_set, tab_get hm, Option.bind_some, hw, f108_p12_1, w64_nat (show p.length < 1000000 by omega)]
   rw [req_pos (by omega), req_pos (by omega)]
   have e1 : tab 9 (fun i => if i = m then cntv (p ++ [(m : Int)]) m else cntv p i) = tab 9 (cntv (p ++ [(m : Int)])) := tab_congr fun i _ => by
    by_cases e : i = m
    ·simp [e]
    ·have : ¬ (m : Int) = (i : Int) := by omega
     simp [e, cntv, pos_snoc, this]
   have e2 : tab 9 (fun i => if i = m then (p.length : Int) else lstv p i) = tab 9 (lstv (p ++ [(m : Int)])) := tab_congr fun i _ => by
    by_cases e : i = m
    ·simp [e, lstv, pos_snoc]
    ·have : ¬ (m : Int) = (i : Int) := by omega
     simp [e, lstv, pos_snoc, this]
   have e3 : tab 16 (fun i => if i = p.length then (m : Int) else atv p i) = tab 16 (atv (p ++ [(m : Int)])) := tab_congr fun i _ => by
    unfold atv
    by_cases e : i = p.length
    ·simp [e]
    ·simp only [e, if_false]
     rcases Nat.lt_or_ge i p.length with g | g
     ·rw [List.getElem?_append_left g]
     ·rw [List.getElem?_eq_none (by omega), List.getElem?_eq_none (by simp; omega)]
   have e4 : (if (cntv (p ++ [(m : Int)]) m == 1) = true then some (tab 9 (fun i => if i = m then (p.length : Int) else fstv p i)) else some (tab 9 (fstv p))) = some (tab 9 (fstv (p ++ [(m : Int)]))) := by
    by_cases e : posF 0 p m = []
    ·have : (cntv (p ++ [(m : Int)]) m == 1) = true := by simp [cntv, pos_snoc, e]
     rw [if_pos this]
     congr 1
     apply tab_congr
     intro i _
     by_cases g : i = m
     ·simp [g, fstv, pos_snoc, e]
     ·have : ¬ (m : Int) = (i : Int) := by omega
      simp [g, fstv, pos_snoc, this]
    ·have : ¬ (cntv (p ++ [(m : Int)]) m == 1) = true := by
      simp only [cntv, pos_snoc, if_true, List.length_append, List.length_singleton, beq_iff_eq]
      intro g
      exact e (List.length_eq_zero_iff.1 (by omega))
     rw [if_neg this]
     congr 1
     apply tab_congr
     intro i _
     by_cases g : i = m
     ·subst g
      obtain ⟨y, ys, hy⟩ := List.exists_cons_of_ne_nil e
      simp [fstv, pos_snoc, hy]
     ·have : ¬ (m : Int) = (i : Int) := by omega
      simp [fstv, pos_snoc, this]
   simp only [if_true, e1]
   rw [req_pos (by omega), req_pos (by omega), e4]
   simp only [Option.bind_some]
   rw [req_pos (by omega), req_pos (by omega), e2, e3, ih (by omega) (by omega)]
   simp [inR, h]
  ·simp [h, inR]

theorem f113_eq {F : Nat} {k : Int} {w : Bool} (h : 0 ≤ k ∧ k ≤ 1000) : f113 F k w = some (dist w k) := by
 unfold f113 f113_p0 dist
 cases w
 ·rfl
 ·simp only [if_true, Option.bind_some]; rw [w64_in (by omega)]

theorem f76_eq {F : Nat} {k : Nat} {w : Bool} {a : Int} {c : List Int} {f : Nat → Int} (hk : k < 9) (hf : -1 ≤ f k ∧ f k ≤ 1000) : f76 F k a w c (tab 9 f) = some (f k + dist w k) := by
 unfold f76
 rw [req_pos (by omega)]
 simp only [Int.toNat_natCast, Nat.zero_add, Nat.mul_one, tab_get hk, Option.bind_some]
 rw [f113_eq (by omega)]
 simp only [Option.bind_some]
 rw [w64_in (by unfold dist; split <;> omega)]

theorem fstv_bound (l : List Int) (hl : l.length ≤ 1000) (k : Nat) : -1 ≤ fstv l k ∧ fstv l k ≤ 1000 := by
 unfold fstv
 cases h : posF 0 l k with
 | nil => simp
 | cons y ys =>
  have := posF_mem (l := l) (i := 0) (j := y) (k := k) (by rw [h]; simp)
  simp only [List.headD_cons]; omega

theorem f108_p14_eq {l : List Int} (F : Nat) (hl : l.length ≤ 1000) (n : Int) (w : Bool) (hn : n ≤ 8) (a : Int) (c : List Int) : ∀ (m k : Nat) (f : Nat), m < f → 1 ≤ k → (k : Int) + m = n + 1 →
  f108_p14 F n w l a w c (tab 9 (fstv l)) (tab 9 (cntv l)) (tab 9 (lstv l)) f k = some (if errs w l m k = 0 then .c1 else .c0 (errs w l m k))
 | 0, k, f + 1, _, h1, hk => by
  have : ¬ (k : Int) ≤ n := by omega
  simp [f108_p14, errs, this]
 | m + 1, k, f + 1, hf, h1, hk => by
  have hlt : (k : Int) ≤ n := by omega
  have h9 : k < 9 := by omega
  have ih := f108_p14_eq F hl n w hn a c m (k + 1) f (by omega) (by omega) (by omega)
  simp only [f108_p14, decide_eq_true hlt, if_true, Int.toNat_natCast, Nat.zero_add, Nat.mul_one, tab_get h9, Option.bind_some, w64_nat (show k < 1000000 by omega), f76_eq h9 (fstv_bound l hl k), errs, errP]
  rw [req_pos (by omega)]
  have hb : fstv l k = (posF 0 l k).headD (-1) := rfl
  have hc : lstv l k = (posF 0 l k).getLastD 0 := rfl
  have hd : cntv l k = ((posF 0 l k).length : Int) := rfl
  rw [hb, hc, hd, ih]
  obtain ⟨ps, hp⟩ : ∃ ps, posF 0 l k = ps := ⟨_, rfl⟩
  simp only [hp]
  by_cases c1 : 2 < ps.length
  ·have : ((ps.length : Nat) : Int) > 2 := by omega
   simp [c1, this]
  ·have c1' : ¬ ((ps.length : Nat) : Int) > 2 := by omega
   by_cases c2 : ps.length = 1
   ·simp [c1', c2]
   ·have c2' : ¬ ((ps.length : Nat) : Int) = 1 := by omega
    by_cases c3 : ps.length = 2
    ·obtain ⟨y, z, rfl⟩ := two_of c3
     by_cases c4 : z = y + dist w k
     ·simp [c4]
     ·simp [c4]
    ·have c3' : ¬ ((ps.length : Nat) : Int) = 2 := by omega
     simp [c1', c2', c3', c1, c2, c3]

theorem f108_eq {F : Nat} {l : List Int} (hF : l.length + 20 < F) (hl : l.length ≤ 1000) (n : Int) (w : Bool) :
  f108 F n w l = some (if code n w l = 0 then .c1 0 n w (tab 16 (atv l)) (tab 9 (fstv l)) else .c0 (code n w l)) := by
 unfold f108 code
 rw [f77_eq]
 by_cases h1 : 1 ≤ n ∧ n ≤ 8
 ·simp only [h1, and_self, decide_true, if_true, Option.bind_some]
  rw [w64_in (n := 2 * n) (by omega)]
  by_cases h2 : (l.length : Int) = 2 * n
  ·have h3 := f108_p4_eq F n w l n w (List.replicate 16 0) 9 0 F (by omega) (by omega)
   rw [tab_congr (g := fun _ => 0) (fun i _ => by simp), ← tab_rep] at h3
   simp only [Int.natCast_zero] at h3
   have h4 := f108_p8_eq F n w h1.2 n w l [] F (by omega) (by simp; omega)
   simp only [List.nil_append, List.length_nil] at h4
   rw [show tab 16 (atv []) = List.replicate 16 0 by rw [tab_rep]; rfl, show tab 9 (fstv []) = tab 9 (fun _ => -1) from rfl, show tab 9 (cntv []) = List.replicate 9 0 by rw [tab_rep]; rfl, show tab 9 (lstv []) = List.replicate 9 0 by rw [tab_rep]; rfl] at h4
   simp only [Int.natCast_zero] at h4
   simp only [h2, bne_self_eq_false, h3, Option.bind_some, h4]
   by_cases h5 : inR n l = true
   ·have h6 := f108_p14_eq (l := l) F hl n w h1.2 n (tab 16 (atv l)) n.toNat 1 F (by omega) (by omega) (by omega)
    simp only [Int.natCast_one] at h6
    simp only [h5, if_true, Option.bind_some, h6]
    by_cases h7 : errs w l n.toNat 1 = 0
    ·simp [h7]
    ·simp [h7]
   ·simp [h5]
  ·simp [h2]
 ·simp [h1]

structure Val (n : Int) (w : Bool) (l : List Int) : Prop where
 rng : 1 ≤ n ∧ n ≤ 8
 len : (l.length : Int) = 2 * n
 inr : ∀ x ∈ l, 0 ≤ x ∧ x ≤ n
 kind : ∀ k, 1 ≤ k → k ≤ n → errP (dist w k) (posF 0 l k) = 0

theorem errs_zero {w : Bool} {l : List Int} : ∀ (m : Nat) (k : Int), errs w l m k = 0 ↔ ∀ j, k ≤ j → j < k + m → errP (dist w j) (posF 0 l j) = 0
 | 0, k => by
  simp only [errs, true_iff]
  intro j h1 h2; omega
 | m + 1, k => by
  simp only [errs]
  by_cases h : errP (dist w k) (posF 0 l k) = 0
  ·rw [if_pos h, errs_zero m (k + 1)]
   constructor
   ·intro g j h1 h2
    by_cases e : j = k
    ·rw [e]; exact h
    ·exact g j (by omega) (by omega)
   ·intro g j h1 h2; exact g j (by omega) (by omega)
  ·rw [if_neg h]
   constructor
   ·intro g; exact absurd g h
   ·intro g; exact g k (by omega) (by omega)

theorem inR_iff {n : Int} {l : List Int} : inR n l = true ↔ ∀ x ∈ l, 0 ≤ x ∧ x ≤ n := by simp [inR]

theorem code_zero {n : Int} {w : Bool} {l : List Int} : code n w l = 0 ↔ Val n w l := by
 unfold code
 by_cases h1 : 1 ≤ n ∧ n ≤ 8
 ·by_cases h2 : (l.length : Int) = 2 * n
  ·by_cases h3 : inR n l = true
   ·simp only [h1, h2, h3, and_self, if_true, errs_zero]
    constructor
    ·intro g; exact ⟨h1, h2, inR_iff.1 h3, fun k a b => g k a (by omega)⟩
    ·intro g j a b; exact g.kind j a (by omega)
   ·simp only [h1, h2, h3, and_self, if_true]
    constructor
    ·intro g; simp at g
    ·intro g; exact absurd (inR_iff.2 g.inr) h3
  ·simp only [h1, h2, and_self, if_true, if_false]
   constructor
   ·intro g; simp at g
   ·intro g; exact absurd g.len h2
 ·simp only [h1, if_false]
  constructor
  ·intro g; simp at g
  ·intro g; exact absurd g.rng h1

theorem Val.two {n : Int} {w : Bool} {l : List Int} (h : Val n w l) {k : Int} (h1 : 1 ≤ k) (h2 : k ≤ n) : posF 0 l k = [] ∨ ∃ a : Int, posF 0 l k = [a, a + dist w k] := by
 have := h.kind k h1 h2
 unfold errP at this
 generalize posF 0 l k = ps at *
 match ps with
 | [] => exact .inl rfl
 | [a] => simp at this
 | [a, b] =>
  right
  refine ⟨a, ?_⟩
  by_cases e : b = a + dist w k
  ·rw [e]
  ·simp [e] at this
 | a :: b :: c :: r => simp at this


def dN (w : Bool) (k : Nat) : Nat := if w then k + 1 else k

theorem dist_nat (w : Bool) (k : Nat) : dist w (k : Int) = ((dN w k : Nat) : Int) := by
 unfold dist dN; cases w <;> simp

theorem atv_mem {l : List Int} {p : Nat} (h : p < l.length) : atv l p ∈ l := by
 rw [atv, List.getElem?_eq_getElem h]; simp

def fitB (w : Bool) (l : List Int) (k p : Nat) : Bool := decide (p + dN w k < l.length) && (atv l p == 0 && atv l (p + dN w k) == 0)

def mayS (w : Bool) (l : List Int) (k p : Nat) : Int :=
 if posF 0 l k ≠ [] then 6 else if l.length ≤ p + dN w k then 15 else if fitB w l k p = true then 0 else 16

theorem fst_pos {l : List Int} {k : Nat} : 0 ≤ fstv l k ↔ posF 0 l k ≠ [] := by
 unfold fstv
 cases h : posF 0 l k with
 | nil => simp
 | cons y ys =>
  have := posF_mem (l := l) (i := 0) (j := y) (k := k) (by rw [h]; simp)
  simp only [List.headD_cons]
  constructor
  ·intro _ e; cases e
  ·intro _; omega

theorem f110_eq {F : Nat} {n : Int} {w : Bool} {l : List Int} (v : Val n w l) {k p : Nat} (hk : 1 ≤ k ∧ (k : Int) ≤ n) (hp : p < l.length) :
  f110 F k p n w (tab 16 (atv l)) (tab 9 (fstv l)) = some (mayS w l k p) := by
 have hr := v.rng
 have hl := v.len
 have hd : dN w k ≤ k + 1 := by unfold dN; split <;> omega
 unfold f110 mayS
 rw [f113_eq (by omega), Option.bind_some, dist_nat, req_pos (by omega)]
 simp only [Option.bind_some, Int.toNat_natCast, Nat.zero_add, Nat.mul_one, tab_get (show k < 9 by omega), f109]
 by_cases h1 : posF 0 l k ≠ []
 ·have := fst_pos.2 h1
  simp [h1, this]
 ·have : ¬ 0 ≤ fstv l k := fun g => h1 (fst_pos.1 g)
  rw [w64_in (n := 2 * n) (by omega), w64_in (n := (p : Int) + (dN w k : Nat)) (by omega)]
  by_cases h2 : l.length ≤ p + dN w k
  ·have h2' : (p : Int) + (dN w k : Nat) ≥ 2 * n := by omega
   simp [h1, this, h2, h2']
  ·have h2' : ¬ (p : Int) + (dN w k : Nat) ≥ 2 * n := by omega
   have h3 : p + dN w k < l.length := by omega
   have b1 := v.inr _ (atv_mem hp)
   have b2 := v.inr _ (atv_mem h3)
   rw [req_pos (p := (0 : Int) ≤ p ∧ _) (by omega), req_pos (p := (0 : Int) ≤ (p : Int) + (dN w k : Nat) ∧ _) (by omega)]
   have e : Int.toNat ((p : Int) + (dN w k : Nat)) = p + dN w k := by omega
   simp only [e, tab_get (show p < 16 by omega), tab_get (show p + dN w k < 16 by omega), Option.bind_some, fitB]
   by_cases g1 : atv l p = 0
   ·by_cases g2 : atv l (p + dN w k) = 0
    ·simp [h1, this, h2, h2', h3, g1, g2]
    ·have : atv l (p + dN w k) > 0 := by omega
     simp [*]
   ·have : atv l p > 0 := by omega
    simp [*]

theorem row_set {l : List Int} {p : Nat} {x : Int} (h : p < l.length) : (tab 16 (atv l)).set p x = tab 16 (atv (l.set p x)) := by
 rw [tab_set]
 apply tab_congr
 intro i _
 unfold atv
 rw [List.getElem?_set]
 by_cases e : i = p
 ·subst e; simp [h]
 ·have : ¬ p = i := fun g => e g.symm
  simp [e, this]

def set2 (l : List Int) (a b : Nat) (x : Int) : List Int := (l.set a x).set b x

theorem set2_len (l : List Int) (a b : Nat) (x : Int) : (set2 l a b x).length = l.length := by simp [set2]

theorem f112_eq {F : Nat} {n : Int} {w : Bool} {l : List Int} {c : List Int} (hn : 1 ≤ n ∧ n ≤ 8) (hl : (l.length : Int) = 2 * n) : f112 F (tab 16 (atv l)) n w (tab 16 (atv l)) c = some (n, w, l) := by
 unfold f112 f109
 rw [w64_in (n := 2 * n) (by omega)]
 simp only [Option.bind_some]
 rw [← hl, Int.toNat_natCast, Nat.zero_add, row_take' (by omega), req_pos (by omega)]
 simp only [List.drop_zero, f59]
 rw [req_pos (by intro e; rw [e] at hl; simp at hl; omega), req_pos (by simp; omega)]
 simp only [Option.bind_some, List.nil_append]
 rw [req_pos (by rw [tab_len]; omega)]
 simp
where
 row_take' {l : List Int} (h : l.length ≤ 16) : List.take l.length (tab 16 (atv l)) = l := by
  apply List.ext_getElem?
  intro i
  rw [List.getElem?_take]
  split
  ·rw [tab_get (by omega), atv, List.getElem?_eq_getElem (by omega)]; rfl
  ·rw [List.getElem?_eq_none (by omega)]

theorem f111_put {F : Nat} {n : Int} {w : Bool} {l : List Int} (v : Val n w l) {k p : Nat} (hk : 1 ≤ k ∧ (k : Int) ≤ n) (h0 : posF 0 l k = []) (hp : p + dN w k < l.length) :
  f111 F k p n w (tab 16 (atv l)) (tab 9 (fstv l)) = some (n, w, tab 16 (atv (set2 l p (p + dN w k) k)), tab 9 (fun i => if i = k then (p : Int) else fstv l i)) := by
 have hr := v.rng
 have hl := v.len
 have hd : dN w k ≤ k + 1 := by unfold dN; split <;> omega
 have hf : fstv l k < 0 := by
  have : ¬ 0 ≤ fstv l k := fun g => fst_pos.1 g h0
  omega
 unfold f111
 rw [f113_eq (by omega), Option.bind_some, dist_nat, req_pos (by omega)]
 simp only [Option.bind_some, Int.toNat_natCast, Nat.zero_add, Nat.mul_one, tab_get (show k < 9 by omega)]
 rw [w64_in (n := (p : Int) + (dN w k : Nat)) (by omega), show Int.toNat ((p : Int) + (dN w k : Nat)) = p + dN w k by omega]
 rw [if_pos (by simpa using hf), req_pos (by omega), req_pos (by omega), req_pos (by omega), req_pos (by omega), req_pos (by omega)]
 rw [row_set (by omega), row_set (by simpa using hp), tab_set]; rfl

abbrev R4 := Int × Bool × List Int × Int

def putS (n : Int) (w : Bool) (l : List Int) (k p : Int) : R4 :=
 if code n w l = 0 then
  if 1 ≤ k ∧ k ≤ n then
   if 0 ≤ p ∧ p ≤ (l.length : Int) - 1 then
    if mayS w l k.toNat p.toNat = 0 then (n, w, set2 l p.toNat (p.toNat + dN w k.toNat) k, 0) else (0, false, [], mayS w l k.toNat p.toNat)
   else (0, false, [], 2)
  else (0, false, [], 2)
 else (0, false, [], code n w l)

theorem may_zero {w : Bool} {l : List Int} {k p : Nat} (h : mayS w l k p = 0) : posF 0 l k = [] ∧ fitB w l k p = true ∧ p + dN w k < l.length := by
 unfold mayS at h
 by_cases h1 : posF 0 l k ≠ []
 ·simp [h1] at h
 ·by_cases h2 : l.length ≤ p + dN w k
  ·simp [h1, h2] at h
  ·by_cases h3 : fitB w l k p = true
   ·exact ⟨by simpa using h1, h3, by omega⟩
   ·simp [h1, h2, h3] at h

theorem f74_eq {F : Nat} (hF : 100 ≤ F) {l : List Int} (hl : l.length ≤ 60) (n : Int) (w : Bool) (k p : Int) : f74 F n w l k p = some (putS n w l k p) := by
 unfold f74 putS
 rw [f108_eq (by omega) (by omega)]
 by_cases h : code n w l = 0
 ·have v := code_zero.1 h
  have hr := v.rng
  have hlen := v.len
  simp only [h, if_true, Option.bind_some, bne_self_eq_false, f77_eq, f109]
  rw [w64_in (n := 2 * n) (by omega), w64_in (n := 2 * n - 1) (by omega), ← hlen]
  by_cases h1 : 1 ≤ k ∧ k ≤ n
  ·by_cases h2 : 0 ≤ p ∧ p ≤ (l.length : Int) - 1
   ·obtain ⟨a, rfl⟩ := Int.eq_ofNat_of_zero_le (show 0 ≤ k by omega)
    obtain ⟨b, rfl⟩ := Int.eq_ofNat_of_zero_le h2.1
    simp only [h1, h2, and_self, decide_true, if_true, Option.bind_some, Int.toNat_natCast]
    rw [f110_eq v (by omega) (by omega)]
    by_cases h3 : mayS w l a b = 0
    ·obtain ⟨g1, _, g3⟩ := may_zero h3
     simp only [Option.bind_some, h3, bne_self_eq_false, if_true]
     rw [f111_put v (by omega) g1 g3]
     simp only [Option.bind_some]
     rw [f112_eq hr (by rw [set2_len]; exact hlen)]
     rfl
    ·simp [h3]
   ·simp [h1, h2]
  ·simp [h1]
 ·simp [h]

def frs (w : Bool) (l : List Int) (k : Nat) : Nat → List Int
 | 0 => []
 | i + 1 => frs w l k i ++ (if fitB w l k i = true then [(i : Int)] else [])

theorem frs_len (w : Bool) (l : List Int) (k : Nat) : ∀ i, (frs w l k i).length ≤ i
 | 0 => by simp [frs]
 | i + 1 => by
  have := frs_len w l k i
  simp only [frs, List.length_append]; split <;> simp <;> omega

def freeS (n : Int) (w : Bool) (l : List Int) (k : Int) : List Int × Int :=
 if code n w l = 0 then
  if 1 ≤ k ∧ k ≤ n then
   if posF 0 l k = [] then (frs w l k.toNat l.length, 0) else ([], 6)
  else ([], 2)
 else ([], code n w l)

theorem f73_p5_eq {F : Nat} {n : Int} {w : Bool} {l : List Int} (v : Val n w l) {k : Nat} (hk : 1 ≤ k ∧ (k : Int) ≤ n) (h0 : posF 0 l k = []) : ∀ (m i f : Nat), m < f → i + m = l.length →
  f73_p5 F k ((l.length : Nat) : Int) n w (tab 16 (atv l)) (tab 9 (fstv l)) f i (frs w l k i) = some (frs w l k l.length)
 | 0, i, f + 1, _, hi => by
  obtain rfl : i = l.length := by omega
  simp [f73_p5]
 | m + 1, i, f + 1, hf, hi => by
  have hr := v.rng
  have hl := v.len
  have hlt : (i : Int) < ((l.length : Nat) : Int) := by omega
  have ih := f73_p5_eq (F := F) v hk h0 m (i + 1) f (by omega) (by omega)
  have hfl := frs_len w l k i
  simp only [f73_p5, decide_eq_true hlt, if_true]
  rw [f110_eq v hk (by omega)]
  simp only [Option.bind_some, f73_p8_1]
  rw [w64_nat (by omega)]
  have e : (mayS w l k i = 0) ↔ fitB w l k i = true := by
   constructor
   ·intro h; exact (may_zero h).2.1
   ·intro h
    have : i + dN w k < l.length := by simp [fitB] at h; exact h.1
    simp [mayS, h0, h, show ¬ l.length ≤ i + dN w k by omega]
  by_cases h : fitB w l k i = true
  ·rw [if_pos (by simpa using e.2 h), req_pos (by simp; omega)]
   simp only [Option.bind_some]
   rw [show frs w l k i ++ [(i : Int)] = frs w l k (i + 1) by simp [frs, h], ih]
  ·rw [if_neg (by simpa using fun g => h (e.1 g))]
   simp only [Option.bind_some]
   rw [show frs w l k i = frs w l k (i + 1) by simp [frs, h], ih]

theorem f73_eq {F : Nat} (hF : 100 ≤ F) {l : List Int} (hl : l.length ≤ 60) (n : Int) (w : Bool) (k : Int) : f73 F n w l k = some (freeS n w l k) := by
 unfold f73 freeS
 rw [f108_eq (by omega) (by omega)]
 by_cases h : code n w l = 0
 ·have v := code_zero.1 h
  have hr := v.rng
  have hlen := v.len
  simp only [h, if_true, Option.bind_some, bne_self_eq_false, f77_eq, f109]
  rw [w64_in (n := 2 * n) (by omega), ← hlen]
  by_cases h1 : 1 ≤ k ∧ k ≤ n
  ·obtain ⟨a, rfl⟩ := Int.eq_ofNat_of_zero_le (show 0 ≤ k by omega)
   simp only [h1, and_self, decide_true, if_true, Option.bind_some, Int.toNat_natCast, Bool.false_eq_true, if_false]
   rw [req_pos (by omega)]
   simp only [Nat.zero_add, Nat.mul_one, tab_get (show a < 9 by omega), Option.bind_some]
   by_cases h0 : posF 0 l (a : Int) = []
   ·have hf : ¬ fstv l a ≥ 0 := fun g => fst_pos.1 g h0
    rw [if_neg (by simpa using hf)]
    have := f73_p5_eq (F := F) v (k := a) (by omega) h0 l.length 0 F (by omega) (by omega)
    simp only [Int.natCast_zero, frs] at this
    rw [this]
    simp [h0]
   ·have hf : fstv l a ≥ 0 := fst_pos.2 h0
    rw [if_pos (by simpa using hf)]
    simp [h0]
  ·simp [h1]
 ·simp [h]

theorem Val.both {n : Int} {w : Bool} {l : List Int} (v : Val n w l) {k : Nat} (hk : 1 ≤ k ∧ (k : Int) ≤ n) (h : posF 0 l k ≠ []) :
  ∃ a : Nat, posF 0 l k = [(a : Int), ((a + dN w k : Nat) : Int)] ∧ a + dN w k < l.length ∧ fstv l k = (a : Int) := by
 rcases v.two (k := (k : Int)) (by omega) hk.2 with e | ⟨a, e⟩
 ·exact absurd e h
 ·have h1 := posF_mem (l := l) (i := 0) (j := a) (k := k) (by rw [e]; simp)
  have h2 := posF_mem (l := l) (i := 0) (j := a + dist w k) (k := k) (by rw [e]; simp)
  obtain ⟨a, rfl⟩ := Int.eq_ofNat_of_zero_le h1.1
  rw [dist_nat] at e h2
  refine ⟨a, by rw [e]; rfl, by omega, by rw [fstv, e]; rfl⟩

theorem f75_eq {F : Nat} (hF : 100 ≤ F) {l : List Int} (hl : l.length ≤ 60) (n : Int) (w : Bool) (k : Int) : f75 F n w l k = some (if code n w l = 0 then if 1 ≤ k ∧ k ≤ n then if posF 0 l k = [] then .c0 12 else .c1 0 n w (tab 16 (atv l)) (tab 9 (fstv l)) else .c0 2 else .c0 (code n w l)) := by
 unfold f75
 rw [f108_eq (by omega) (by omega)]
 by_cases h : code n w l = 0
 ·have v := code_zero.1 h
  have hr := v.rng
  simp only [h, if_true, Option.bind_some, bne_self_eq_false, f77_eq]
  by_cases h1 : 1 ≤ k ∧ k ≤ n
  ·obtain ⟨a, rfl⟩ := Int.eq_ofNat_of_zero_le (show 0 ≤ k by omega)
   simp only [h1, and_self, decide_true, if_true, Option.bind_some, Int.toNat_natCast, Bool.false_eq_true, if_false]
   rw [req_pos (by omega)]
   simp only [Nat.zero_add, Nat.mul_one, tab_get (show a < 9 by omega), Option.bind_some]
   by_cases h0 : posF 0 l (a : Int) = []
   ·have hf : fstv l a < 0 := by
     have : ¬ 0 ≤ fstv l a := fun g => fst_pos.1 g h0
     omega
    simp [h0, hf]
   ·have hf : ¬ fstv l a < 0 := by have := fst_pos.2 h0; omega
    simp [h0, hf]
  ·simp [h1]
 ·simp [h]

def btwL (w : Bool) (l : List Int) (k : Nat) : List Int := (l.drop (((posF 0 l k).headD 0).toNat + 1)).take (dN w k - 1)

def betwS (n : Int) (w : Bool) (l : List Int) (k : Int) : List Int × Int :=
 if code n w l = 0 then
  if 1 ≤ k ∧ k ≤ n then
   if posF 0 l k = [] then ([], 12) else (btwL w l k.toNat, 0)
  else ([], 2)
 else ([], code n w l)

theorem row_slice {l : List Int} {a m : Nat} (h : a + m ≤ l.length) (h16 : l.length ≤ 16) : List.drop a (List.take (a + m) (tab 16 (atv l))) = (l.drop a).take m := by
 apply List.ext_getElem?
 intro i
 rw [List.getElem?_drop, List.getElem?_take, List.getElem?_take, List.getElem?_drop]
 by_cases g : i < m
 ·rw [if_pos (by omega), if_pos g, tab_get (by omega), atv, List.getElem?_eq_getElem (by omega)]; rfl
 ·rw [if_neg (by omega), if_neg g]

theorem dN_pos {w : Bool} {k : Nat} (h : 1 ≤ k) : 1 ≤ dN w k ∧ dN w k ≤ k + 1 := by unfold dN; split <;> omega

theorem f35_eq {F : Nat} (hF : 100 ≤ F) {l : List Int} (hl : l.length ≤ 60) (n : Int) (w : Bool) (k : Int) : f35 F n w l k = some (betwS n w l k) := by
 unfold f35 betwS
 rw [f75_eq hF hl]
 by_cases h : code n w l = 0
 ·have v := code_zero.1 h
  have hr := v.rng
  have hlen := v.len
  by_cases h1 : 1 ≤ k ∧ k ≤ n
  ·obtain ⟨a, rfl⟩ := Int.eq_ofNat_of_zero_le (show 0 ≤ k by omega)
   by_cases h0 : posF 0 l (a : Int) = []
   ·simp [h, h1, h0]
   ·obtain ⟨b, e1, e2, e3⟩ := v.both (by omega) h0
    have hd := dN_pos (w := w) (k := a) (by omega)
    simp only [h, h1, h0, and_self, if_true, if_false, Option.bind_some, bne_self_eq_false, Int.toNat_natCast, Bool.false_eq_true]
    rw [req_pos (by omega)]
    simp only [Nat.zero_add, Nat.mul_one, tab_get (show a < 9 by omega), Option.bind_some, e3]
    rw [f76_eq (by omega) (by omega), e3, dist_nat, w64_nat (by omega)]
    simp only [Option.bind_some]
    rw [req_pos (by omega)]
    have g1 : Int.toNat ((b : Int) + (dN w a : Nat)) = b + dN w a := by omega
    simp only [g1, Int.toNat_natCast, f59_1]
    rw [req_pos (by rw [tab_len]; omega), row_slice (by omega) (by omega), req_pos (by simp; omega)]
    simp only [List.nil_append, Option.bind_some]
    unfold btwL
    rw [e1]
    simp only [List.headD_cons, Int.toNat_natCast, Nat.zero_add, List.take_length, List.drop_zero]
    rw [show b + dN w a - (b + 1) = dN w a - 1 by omega]
  ·simp [h, h1]
 ·simp [h]

def crossB (w : Bool) (l : List Int) (k j : Nat) : Bool := decide ((posF 0 (btwL w l k) j).length = 1)

def crs (w : Bool) (l : List Int) (k : Nat) : Nat → Nat → List Int
 | 0, _ => []
 | m + 1, j => (if crossB w l k j = true then [(j : Int)] else []) ++ crs w l k m (j + 1)

theorem crs_len (w : Bool) (l : List Int) (k : Nat) : ∀ m j, (crs w l k m j).length ≤ m
 | 0, _ => by simp [crs]
 | m + 1, j => by
  have := crs_len w l k m (j + 1)
  simp only [crs, List.length_append]; split <;> simp <;> omega

def crossS (n : Int) (w : Bool) (l : List Int) (k : Int) : List Int × Int :=
 if code n w l = 0 then
  if 1 ≤ k ∧ k ≤ n then
   if posF 0 l k = [] then ([], 12) else (crs w l k.toNat n.toNat 1, 0)
  else ([], 2)
 else ([], code n w l)

theorem pos_part {l : List Int} {k : Int} {i m : Nat} {x : Int} : x ∈ posF 0 ((l.drop i).take m) k ↔ ((i : Int) + x ∈ posF 0 l k ∧ 0 ≤ x ∧ x < m) := by
 constructor
 ·intro h
  obtain ⟨h1, h2, h3⟩ := posF_mem h
  have hx : x.toNat < m := by simp at h2; omega
  rw [List.getElem?_take, if_pos (by omega), List.getElem?_drop] at h3
  have := posF_of (i := 0) h3
  exact ⟨by rwa [show (0 : Int) + ((i + (x - 0).toNat : Nat) : Int) = i + x by omega] at this, h1, by omega⟩
 ·rintro ⟨h1, h2, h3⟩
  obtain ⟨_, _, h6⟩ := posF_mem h1
  have : ((l.drop i).take m)[x.toNat]? = some k := by
   rw [List.getElem?_take, if_pos (by omega), List.getElem?_drop, ← h6]
   congr 1; omega
  simpa [show ((x.toNat : Nat) : Int) = x by omega] using posF_of (i := 0) this

theorem posF_sorted (k : Int) : ∀ (l : List Int) (i : Int), (posF i l k).Pairwise (· < ·)
 | [], _ => by simp [posF]
 | x :: l, i => by
  have ih := posF_sorted k l (i + 1)
  simp only [posF]
  split
  ·refine List.pairwise_cons.2 ⟨fun y hy => ?_, ih⟩
   have := posF_mem hy
   omega
  ·exact ih

theorem len_one_iff {ps : List Int} (hs : ps.Pairwise (· < ·)) : ps.length = 1 ↔ ∃ x, x ∈ ps ∧ ∀ y, y ∈ ps → y = x := by
 constructor
 ·intro h
  match ps, h with
  | [x], _ => exact ⟨x, by simp, by simp⟩
 ·rintro ⟨x, h1, h2⟩
  match ps with
  | [] => cases h1
  | [a] => rfl
  | a :: b :: r =>
   have e1 := h2 a (by simp)
   have e2 := h2 b (by simp)
   have := (List.pairwise_cons.1 hs).1 b (by simp)
   omega

theorem cross_iff {n : Int} {w : Bool} {l : List Int} (v : Val n w l) {k j : Nat} (hk : 1 ≤ k ∧ (k : Int) ≤ n) (hj : 1 ≤ j ∧ (j : Int) ≤ n) {a : Nat} (ha : posF 0 l k = [(a : Int), ((a + dN w k : Nat) : Int)]) :
  crossB w l k j = true ↔ ∃ c : Nat, posF 0 l j = [(c : Int), ((c + dN w j : Nat) : Int)] ∧ ((a < c ∧ c < a + dN w k) ↔ ¬ (a < c + dN w j ∧ c + dN w j < a + dN w k)) := by
 have hd := dN_pos (w := w) hk.1
 have hdj := dN_pos (w := w) hj.1
 have hm : ∀ x : Int, x ∈ posF 0 (btwL w l k) j ↔ ((a : Int) + 1 + x ∈ posF 0 l j ∧ 0 ≤ x ∧ x < ((dN w k - 1 : Nat) : Int)) := fun x => by
  unfold btwL
  rw [ha, pos_part]
  simp only [List.headD_cons, Int.toNat_natCast, Int.natCast_add, Int.natCast_one]
 simp only [crossB, decide_eq_true_eq]
 rw [len_one_iff (posF_sorted _ _ _)]
 by_cases h0 : posF 0 l (j : Int) = []
 ·constructor
  ·rintro ⟨x, h1, _⟩
   have := (hm x).1 h1
   rw [h0] at this
   cases this.1
  ·rintro ⟨c, h1, _⟩
   rw [h0] at h1; cases h1
 ·obtain ⟨c, e1, e2, _⟩ := v.both hj h0
  rw [e1] at hm ⊢
  simp only [List.mem_cons, List.not_mem_nil, or_false] at hm
  constructor
  ·rintro ⟨x, h1, h2⟩
   refine ⟨c, rfl, ?_⟩
   have h3 := (hm x).1 h1
   have h4 := fun y hy => h2 y ((hm y).2 hy)
   constructor
   ·rintro ⟨g1, g2⟩ ⟨g3, g4⟩
    have u1 := h4 ((c : Int) - a - 1) ⟨by left; omega, by omega, by omega⟩
    have u2 := h4 ((c : Int) + dN w j - a - 1) ⟨by right; omega, by omega, by omega⟩
    omega
   ·intro g
    rcases h3.1 with e | e
    ·omega
    ·exact absurd (by omega) g
  ·rintro ⟨c', h1, h2⟩
   obtain rfl : c' = c := by simp at h1; omega
   by_cases g : a < c' ∧ c' < a + dN w k
   ·have g' := h2.1 g
    refine ⟨(c' : Int) - a - 1, (hm _).2 ⟨by left; omega, by omega, by omega⟩, fun y hy => ?_⟩
    obtain ⟨q1, q2, q3⟩ := (hm y).1 hy
    rcases q1 with e | e
    ·omega
    ·exact absurd (by omega) g'
   ·have g' : a < c' + dN w j ∧ c' + dN w j < a + dN w k := by
     apply Classical.byContradiction
     intro q; exact g (h2.2 q)
    refine ⟨(c' : Int) + dN w j - a - 1, (hm _).2 ⟨by right; omega, by omega, by omega⟩, fun y hy => ?_⟩
    obtain ⟨q1, q2, q3⟩ := (hm y).1 hy
    rcases q1 with e | e
    ·exact absurd (by omega) g
    ·omega

theorem pos_apart {l : List Int} {k j x : Int} (h1 : x ∈ posF 0 l k) (h2 : x ∈ posF 0 l j) : k = j := by
 have := (posF_mem h1).2.2
 rw [(posF_mem h2).2.2] at this
 simpa using this.symm

theorem f37_p2_eq {F : Nat} {n : Int} {w : Bool} {l : List Int} (v : Val n w l) {k a : Nat} (hk : 1 ≤ k ∧ (k : Int) ≤ n) (ha : posF 0 l k = [(a : Int), ((a + dN w k : Nat) : Int)]) :
  ∀ (m j f : Nat) (out : List Int), m < f → 1 ≤ j → (j : Int) + m = n + 1 → out.length + m ≤ 100 →
  f37_p2 F k a ((a : Int) + (dN w k : Nat)) n w (tab 16 (atv l)) (tab 9 (fstv l)) f j out = some (out ++ crs w l k m j)
 | 0, j, f + 1, out, _, _, hj, _ => by
  have : ¬ (j : Int) ≤ n := by omega
  simp [f37_p2, this, crs]
 | m + 1, j, f + 1, out, hf, h1, hj, ho => by
  have hlt : (j : Int) ≤ n := by omega
  have hr := v.rng
  have hlen := v.len
  have hd := dN_pos (w := w) hk.1
  have hdj := dN_pos (w := w) h1
  simp only [f37_p2, decide_eq_true hlt, if_true]
  rw [req_pos (by omega)]
  simp only [Int.toNat_natCast, Nat.zero_add, Nat.mul_one, tab_get (show j < 9 by omega), Option.bind_some, crs]
  rw [w64_nat (by omega)]
  by_cases h0 : posF 0 l (j : Int) = []
  ·have hf0 : fstv l j < 0 := by
    have : ¬ 0 ≤ fstv l j := fun g => fst_pos.1 g h0
    omega
   have hc : ¬ crossB w l k j = true := by
    rw [cross_iff v hk ⟨h1, hlt⟩ ha]
    rintro ⟨c, e, _⟩
    rw [h0] at e; cases e
   rw [if_pos (by simpa using hf0), f37_p2_eq v hk ha m (j + 1) f out (by omega) (by omega) (by omega) (by omega)]
   simp [hc]
  ·obtain ⟨c, e1, e2, e3⟩ := v.both ⟨h1, hlt⟩ h0
   have hf0 : ¬ fstv l j < 0 := by omega
   rw [if_neg (by simpa using hf0)]
   by_cases hjk : j = k
   ·subst hjk
    have hc : ¬ crossB w l j j = true := by
     rw [cross_iff v hk ⟨h1, hlt⟩ ha]
     rintro ⟨c', e, h2⟩
     rw [ha] at e
     obtain rfl : a = c' := by simp at e; omega
     omega
    rw [if_pos (by simp), f37_p2_eq v hk ha m (j + 1) f out (by omega) (by omega) (by omega) (by omega)]
    simp [hc]
   ·have hjk' : ¬ (j : Int) = (k : Int) := by omega
    rw [if_neg (by simpa using hjk'), f76_eq (by omega) (by omega), e3, dist_nat]
    simp only [Option.bind_some, f77_eq, f37_p6_1]
    -- the places of two kinds differ
    have q1 : c ≠ a := fun e => hjk' (pos_apart (x := (c : Int)) (by rw [e1]; simp) (by rw [ha, e]; simp))
    have q2 : c ≠ a + dN w k := fun e => hjk' (pos_apart (x := (c : Int)) (by rw [e1]; simp) (by rw [ha, e]; simp))
    have q3 : c + dN w j ≠ a := fun e => hjk' (pos_apart (x := ((c + dN w j : Nat) : Int)) (by rw [e1]; simp) (by rw [ha, e]; simp))
    have q4 : c + dN w j ≠ a + dN w k := fun e => hjk' (pos_apart (x := ((c + dN w j : Nat) : Int)) (by rw [e1]; simp) (by rw [ha, e]; simp))
    have hc : crossB w l k j = true ↔ ((a < c ∧ c < a + dN w k) ↔ ¬ (a < c + dN w j ∧ c + dN w j < a + dN w k)) := by
     rw [cross_iff v hk ⟨h1, hlt⟩ ha]
     constructor
     ·rintro ⟨c', e, h2⟩
      rw [e1] at e
      obtain rfl : c = c' := by simp at e; omega
      exact h2
     ·intro h2; exact ⟨c, e1, h2⟩
    have p1 : (@LE.le Int _ (a : Int) (c : Int) ∧ @LE.le Int _ (c : Int) ((a : Int) + (dN w k : Nat))) ↔ (a < c ∧ c < a + dN w k) := by omega
    have p2 : (@LE.le Int _ (a : Int) ((c : Int) + (dN w j : Nat)) ∧ @LE.le Int _ ((c : Int) + (dN w j : Nat)) ((a : Int) + (dN w k : Nat))) ↔ (a < c + dN w j ∧ c + dN w j < a + dN w k) := by omega
    rw [decide_eq_decide.2 p1, decide_eq_decide.2 p2]
    by_cases g : crossB w l k j = true
    ·have hne : ¬ (decide (a < c ∧ c < a + dN w k) == decide (a < c + dN w j ∧ c + dN w j < a + dN w k)) = true := by
      have := hc.1 g
      intro e
      simp only [beq_iff_eq, decide_eq_decide] at e
      omega
     rw [if_neg hne, req_pos (by simp; omega)]
     simp only [Option.bind_some]
     rw [f37_p2_eq v hk ha m (j + 1) f _ (by omega) (by omega) (by omega) (by simp; omega)]
     simp [g]
    ·have heq : (decide (a < c ∧ c < a + dN w k) == decide (a < c + dN w j ∧ c + dN w j < a + dN w k)) = true := by
      simp only [beq_iff_eq, decide_eq_decide]
      have := mt hc.2 g
      omega
     rw [if_pos heq]
     simp only [Option.bind_some]
     rw [f37_p2_eq v hk ha m (j + 1) f _ (by omega) (by omega) (by omega) (by omega)]
     simp [g]

theorem f37_eq {F : Nat} (hF : 100 ≤ F) {l : List Int} (hl : l.length ≤ 60) (n : Int) (w : Bool) (k : Int) : f37 F n w l k = some (crossS n w l k) := by
 unfold f37 crossS
 rw [f75_eq hF hl]
 by_cases h : code n w l = 0
 ·have v := code_zero.1 h
  have hr := v.rng
  have hlen := v.len
  by_cases h1 : 1 ≤ k ∧ k ≤ n
  ·obtain ⟨a, rfl⟩ := Int.eq_ofNat_of_zero_le (show 0 ≤ k by omega)
   by_cases h0 : posF 0 l (a : Int) = []
   ·simp [h, h1, h0]
   ·obtain ⟨b, e1, e2, e3⟩ := v.both (by omega) h0
    have hd := dN_pos (w := w) (k := a) (by omega)
    simp only [h, h1, h0, and_self, if_true, if_false, Option.bind_some, bne_self_eq_false, Int.toNat_natCast, Bool.false_eq_true]
    rw [req_pos (by omega)]
    simp only [Nat.zero_add, Nat.mul_one, tab_get (show a < 9 by omega), Option.bind_some, e3]
    rw [f76_eq (by omega) (by omega), e3, dist_nat]
    simp only [Option.bind_some]
    have := f37_p2_eq (F := F) v (k := a) (by omega) e1 n.toNat 1 F [] (by omega) (by omega) (by omega) (by simp; omega)
    simp only [Int.natCast_one] at this
    rw [this]
    simp
  ·simp [h, h1]
 ·simp [h]

theorem sorted_pos (k : Int) : ∀ (l : List Int) (i : Int), (posF i l k).Pairwise (· < ·)
 | [], _ => by simp [posF]
 | x :: l, i => by
  have ih := sorted_pos k l (i + 1)
  simp only [posF]
  split
  ·refine List.pairwise_cons.2 ⟨fun y hy => ?_, ih⟩
   have := posF_mem hy
   omega
  ·exact ih

theorem sorted_ext : ∀ {xs ys : List Int}, xs.Pairwise (· < ·) → ys.Pairwise (· < ·) → (∀ x, x ∈ xs ↔ x ∈ ys) → xs = ys
 | [], [], _, _, _ => rfl
 | [], y :: ys, _, _, h => absurd ((h y).2 (by simp)) (by simp)
 | x :: xs, [], _, _, h => absurd ((h x).1 (by simp)) (by simp)
 | x :: xs, y :: ys, hx, hy, h => by
  obtain ⟨hx1, hx2⟩ := List.pairwise_cons.1 hx
  obtain ⟨hy1, hy2⟩ := List.pairwise_cons.1 hy
  have e : x = y := by
   rcases List.mem_cons.1 ((h x).1 (by simp)) with e | e
   ·exact e
   ·rcases List.mem_cons.1 ((h y).2 (by simp)) with g | g
    ·exact g.symm
    ·have := hx1 _ g
     have := hy1 _ e
     omega
  subst e
  congr 1
  refine sorted_ext hx2 hy2 fun z => ⟨fun hz => ?_, fun hz => ?_⟩
  ·rcases List.mem_cons.1 ((h z).1 (List.mem_cons_of_mem _ hz)) with e | e
   ·have := hx1 _ hz; omega
   ·exact e
  ·rcases List.mem_cons.1 ((h z).2 (List.mem_cons_of_mem _ hz)) with e | e
   ·have := hy1 _ hz; omega
   ·exact e

theorem mem_pos {l : List Int} {k x : Int} : x ∈ posF 0 l k ↔ 0 ≤ x ∧ l[x.toNat]? = some k := by
 constructor
 ·intro h
  obtain ⟨h1, _, h3⟩ := posF_mem h
  exact ⟨h1, by simpa using h3⟩
 ·rintro ⟨h1, h2⟩
  have := posF_of (i := 0) h2
  rwa [show (0 : Int) + ((x.toNat : Nat) : Int) = x by omega] at this

theorem get_set2 {l : List Int} {a b i : Nat} {x : Int} (ha : a < l.length) (hb : b < l.length) : (set2 l a b x)[i]? = if i = a ∨ i = b then some x else l[i]? := by
 unfold set2
 rw [List.getElem?_set, List.getElem?_set]
 by_cases h1 : b = i
 ·subst h1; simp [hb]
 ·by_cases h2 : a = i
  ·subst h2; simp [h1, ha]
  ·have h1' : ¬ i = b := fun e => h1 e.symm
   have h2' : ¬ i = a := fun e => h2 e.symm
   simp [h1, h2, h1', h2']

theorem get_atv {l : List Int} {p : Nat} (h : p < l.length) : l[p]? = some (atv l p) := by
 rw [atv, List.getElem?_eq_getElem h]; rfl

theorem pos_put_self {l : List Int} {a b : Nat} {k : Int} (h : posF 0 l k = []) (hab : a < b) (hb : b < l.length) : posF 0 (set2 l a b k) k = [(a : Int), (b : Int)] := by
 apply sorted_ext (sorted_pos _ _ _)
 ·simp; omega
 ·intro x
  rw [mem_pos, get_set2 (by omega) hb]
  have hn : ∀ x : Int, ¬ (0 ≤ x ∧ l[x.toNat]? = some k) := fun x g => by
   have := mem_pos.2 g
   rw [h] at this; cases this
  simp only [List.mem_cons, List.not_mem_nil, or_false]
  constructor
  ·rintro ⟨h1, h2⟩
   split at h2
   ·omega
   ·exact absurd ⟨h1, h2⟩ (hn x)
  ·intro g
   refine ⟨by omega, ?_⟩
   rw [if_pos (by omega)]

theorem pos_put_other {l : List Int} {a b : Nat} {k j : Int} (hj : j ≠ k) (ha : a < l.length) (hb : b < l.length) (h1 : atv l a ≠ j) (h2 : atv l b ≠ j) : posF 0 (set2 l a b k) j = posF 0 l j := by
 apply sorted_ext (sorted_pos _ _ _) (sorted_pos _ _ _)
 intro x
 rw [mem_pos, mem_pos, get_set2 ha hb]
 by_cases g : x.toNat = a ∨ x.toNat = b
 ·rw [if_pos g]
  constructor
  ·rintro ⟨_, e⟩
   exact absurd (Option.some.inj e).symm hj
  ·rintro ⟨_, e⟩
   rcases g with g | g
   ·rw [g, get_atv ha] at e; exact absurd (Option.some.inj e) h1
   ·rw [g, get_atv hb] at e; exact absurd (Option.some.inj e) h2
 ·rw [if_neg g]

theorem fit_of {w : Bool} {l : List Int} {k p : Nat} (h : fitB w l k p = true) : p + dN w k < l.length ∧ atv l p = 0 ∧ atv l (p + dN w k) = 0 := by
 simpa [fitB] using h

theorem dN_rng {w : Bool} {k : Nat} (h : 1 ≤ k) : 1 ≤ dN w k ∧ dN w k ≤ k + 1 := by unfold dN; split <;> omega

theorem put_self {n : Int} {w : Bool} {l : List Int} {k p : Nat} (_v : Val n w l) (hk : 1 ≤ k ∧ (k : Int) ≤ n) (h0 : posF 0 l k = []) (hf : fitB w l k p = true) : posF 0 (set2 l p (p + dN w k) k) k = [(p : Int), ((p + dN w k : Nat) : Int)] := by
 have := fit_of hf
 have := dN_rng (w := w) hk.1
 exact pos_put_self h0 (by omega) (by omega)

theorem put_other {n : Int} {w : Bool} {l : List Int} {k p : Nat} (_v : Val n w l) (_hk : 1 ≤ k ∧ (k : Int) ≤ n) (_h0 : posF 0 l k = []) (hf : fitB w l k p = true) {j : Int} (hj : 1 ≤ j) (hjk : j ≠ k) : posF 0 (set2 l p (p + dN w k) k) j = posF 0 l j := by
 have := fit_of hf
 exact pos_put_other hjk (by omega) (by omega) (by omega) (by omega)

theorem put_val {n : Int} {w : Bool} {l : List Int} {k p : Nat} (v : Val n w l) (hk : 1 ≤ k ∧ (k : Int) ≤ n) (h0 : posF 0 l k = []) (hf : fitB w l k p = true) : Val n w (set2 l p (p + dN w k) k) := by
 have hfit := fit_of hf
 refine ⟨v.rng, by rw [set2_len]; exact v.len, ?_, ?_⟩
 ·intro x hx
  obtain ⟨i, hi⟩ := List.mem_iff_getElem?.1 hx
  rw [get_set2 (by omega) (by omega)] at hi
  split at hi
  ·cases hi; omega
  ·exact v.inr x (List.mem_iff_getElem?.2 ⟨i, hi⟩)
 ·intro j h1 h2
  by_cases e : j = (k : Int)
  ·subst e
   rw [put_self v hk h0 hf]
   simp [errP, dist_nat]
  ·rw [put_other v hk h0 hf h1 e]
   exact v.kind j h1 h2

theorem empty_pos {m : Nat} {k : Int} (h : k ≠ 0) : posF 0 (List.replicate m (0 : Int)) k = [] := by
 apply List.eq_nil_iff_forall_not_mem.2
 intro x hx
 obtain ⟨_, h2⟩ := mem_pos.1 hx
 rw [List.getElem?_replicate] at h2
 split at h2
 ·cases h2; exact h rfl
 ·cases h2

theorem empty_val {m : Nat} {w : Bool} (h : 1 ≤ m ∧ m ≤ 8) : Val (m : Int) w (List.replicate (2 * m) 0) := by
 refine ⟨by omega, by simp, ?_, ?_⟩
 ·intro x hx
  have := List.eq_of_mem_replicate hx
  omega
 ·intro k h1 h2
  rw [empty_pos (by omega)]; rfl

theorem tmod_byte {x m : Int} (h0 : 0 ≤ x) (h1 : x ≤ 255) (hm : 0 < m) : Int.tmod (w64 x) m = x % m := by
 rw [w64_in (by omega), Int.tmod_eq_emod_of_nonneg h0]

end Go.Gh.Top.Fnn
