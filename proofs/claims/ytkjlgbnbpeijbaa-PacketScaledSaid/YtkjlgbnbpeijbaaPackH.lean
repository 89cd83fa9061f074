/- Packet: the best filling, size by size; no filling has fewer packets. -/
import Derived.Test.YtkjlgbnbpeijbaaPackG
import Derived.Test.YtkjlgbnbpeijbaaPackV
namespace Go.Gh.Pack
set_option linter.unusedVariables false
set_option linter.unusedSimpArgs false

def fw : List Int → List Int → Nat → Int
  | s :: a, c :: b => val s.toNat c.toNat (fw a b)
  | _, _ => fun x => if x = 0 then 0 else 1001
def fillL : List Int → List Int → Nat → List Int
  | s :: a, c :: b, m => (ma s.toNat (fw a b) c.toNat m : Nat) :: fillL a b (m - ma s.toNat (fw a b) c.toNat m * s.toNat)
  | _, _, _ => []
def byl (n : Nat) : List Int → List Int → List (List Int)
  | s :: a, c :: b => tab (n + 1) (fun y => (ma s.toNat (fw a b) c.toNat y : Nat)) :: byl n a b
  | _, _ => []

theorem mv_nonneg {s : Nat} {g : Nat → Int} (h : ∀ y, 0 ≤ g y) (c x : Nat) : 0 ≤ mv s g c x := by
  obtain ⟨_, e⟩ := ma_fst (s := s) (g := g) x c
  have := h (x - ma s g c x * s)
  omega
theorem fw_bd : ∀ (a b : List Int) (y : Nat), 0 ≤ fw a b y ∧ fw a b y ≤ 1001
  | [], b, y => by
    have e : fw [] b = fun x => if x = 0 then 0 else 1001 := by cases b <;> rfl
    rw [e]; dsimp only; split <;> decide
  | _ :: _, [], y => by
    show 0 ≤ (if y = 0 then (0 : Int) else 1001) ∧ (if y = 0 then (0 : Int) else 1001) ≤ 1001
    split <;> decide
  | s :: a, c :: b, y => by
    have := mv_nonneg (s := s.toNat) (fun y => (fw_bd a b y).1) c.toNat y
    show 0 ≤ val _ _ _ y ∧ val _ _ _ y ≤ 1001
    unfold val
    split <;> omega

structure GoodM (a b : List Int) : Prop where
  len : b.length = a.length
  five : a.length ≤ 5
  sz : ∀ x ∈ a, 1 ≤ x ∧ x ≤ 30
  st : ∀ x ∈ b, 0 ≤ x ∧ x ≤ 1000
theorem Good.m {a b : List Int} (h : Good a b) : GoodM a b := ⟨h.len, h.five, h.sz, fun x hx => by have := h.st x hx; omega⟩

theorem p9_eq {F n : Nat} {a b : List Int} {g : Nat → Int} {s most : Nat} {p : Int} {C : List (List Int)} (hF : 1100 ≤ F) (hn : n ≤ 1000) (hg : ∀ y, 0 ≤ g y ∧ g y ≤ 1001) (hs : 1 ≤ s) (hs2 : s ≤ 30) (hmost : most ≤ 1000) :
    ∀ (k r : Nat) (N B : Nat → Int), r ≤ s → r ≤ n + 1 → 31 < k + r → (∀ y, y ≤ n → y % s < r → N y = val s most g y ∧ B y = (ma s g most y : Nat)) →
    f65_p9_2 F n a p most s b (tab (n + 1) g) C k r (tab (n + 1) N) (tab (n + 1) B) = some (tab (n + 1) (val s most g), tab (n + 1) (fun y => (ma s g most y : Nat))) := by
  intro k
  induction k with
  | zero => intro r N B h1 _ h; omega
  | succ k ih =>
    intro r N B h1 h2 h3 h4
    have en : w64 ((n : Int) + 1) = ((n + 1 : Nat) : Int) := w64_succ (by omega)
    unfold f65_p9_2
    rw [en]
    by_cases hr : r < s ∧ r < n + 1
    · obtain ⟨N', B', r1, r2, r3⟩ := p13_eq (F := F) (a := a) (b := b) (p := p) (C := C) (r := r) hF hn hg hs hs2 hr.1 (by omega) hmost F 0 N B [] (by omega) (by omega) (by simp) ⟨by simp, by simp, fun i hi => by omega⟩
      rw [if_pos (decide_eq_true (by split <;> omega)), show f65_p13_5 F n a p most s r b (tab (n + 1) g) C F (tab (n + 1) N) (tab (n + 1) B) 0 [] = _ from r1, Option.bind_some, w64_succ (by omega)]
      refine ih (r + 1) N' B' (by omega) (by omega) (by omega) fun y hy hyr => ?_
      by_cases he : y % s = r
      · refine r2 y he ?_ hy
        have := Nat.mod_le y s
        omega
      · have h5 := r3 y fun hh => he hh.1
        rw [h5.1, h5.2]
        exact h4 y hy (by omega)
    · rw [if_neg (by rw [decide_eq_true_eq]; split <;> omega)]
      have hall : ∀ y, y < n + 1 → N y = val s most g y ∧ B y = (ma s g most y : Nat) := fun y hy => by
        refine h4 y (by omega) ?_
        have h5 := Nat.mod_lt y hs
        have h6 := Nat.mod_le y s
        omega
      rw [tab_congr fun y hy => (hall y hy).1, tab_congr fun y hy => (hall y hy).2]

theorem p5_eq {F n : Nat} {a b : List Int} (hF : 1100 ≤ F) (hn : n ≤ 1000) (hab : GoodM a b) : ∀ (k i : Nat), i ≤ a.length → i < k →
    f65_p5 F n a b k ((i : Int) - 1) (tab (n + 1) (fw (a.drop i) (b.drop i))) (List.replicate i [] ++ byl n (a.drop i) (b.drop i)) = some (tab (n + 1) (fw a b), byl n a b) := by
  have hl := hab.len
  have h5 := hab.five
  intro k
  induction k with
  | zero => intro i _ h; omega
  | succ k ih =>
    intro i h1 h2
    unfold f65_p5
    match i, h1, h2 with
    | 0, _, _ =>
      rw [if_neg (by decide)]
      rfl
    | i + 1, h1, h2 =>
      have hia : i < a.length := by omega
      have hib : i < b.length := by omega
      have hsa := hab.sz _ (List.getElem_mem hia)
      have hsb := hab.st _ (List.getElem_mem hib)
      obtain ⟨s, es⟩ : ∃ s : Nat, a[i] = s := ⟨a[i].toNat, by omega⟩
      obtain ⟨c, ec⟩ : ∃ c : Nat, b[i] = c := ⟨b[i].toNat, by omega⟩
      have ei : (((i + 1 : Nat) : Int) - 1) = (i : Int) := by omega
      have en : w64 ((n : Int) + 1) = ((n + 1 : Nat) : Int) := w64_succ (by omega)
      rw [ei, if_pos (decide_eq_true (by omega)), at_get hia, Option.bind_some, at_get hib, Option.bind_some, en, req_pos (by omega), es, ec, Int.toNat_natCast, tab_zero]
      have e := p9_eq (F := F) (n := n) (a := a) (b := b) (p := (i : Int)) (C := List.replicate (i + 1) [] ++ byl n (a.drop (i + 1)) (b.drop (i + 1))) (s := s) (most := c) hF hn (fw_bd (a.drop (i + 1)) (b.drop (i + 1))) (by omega) (by omega) (by omega) F 0 (fun _ => 0) (fun _ => 0) (by omega) (by omega) (by omega) (fun y _ h => by omega)
      have hbl : (byl n (a.drop (i + 1)) (b.drop (i + 1))).length + (i + 1) ≥ i + 1 := by omega
      rw [show f65_p9_2 F n a i c s b (tab (n + 1) (fw (a.drop (i + 1)) (b.drop (i + 1)))) (List.replicate (i + 1) [] ++ byl n (a.drop (i + 1)) (b.drop (i + 1))) F 0 (tab (n + 1) fun _ => 0) (tab (n + 1) fun _ => 0) = _ from e, Option.bind_some]
      dsimp only
      rw [req_pos (by rw [tab_len]; omega), req_pos (by rw [tab_len]; omega), Int.toNat_natCast, req_pos (by omega), Int.toNat_natCast, req_pos (by simp; omega), take_tab, take_tab, show w64 ((i : Int) - 1) = (i : Int) - 1 from w64_in (by omega)]
      have e2 : (List.replicate (i + 1) ([] : List Int) ++ byl n (a.drop (i + 1)) (b.drop (i + 1))).set (0 + i) (tab (n + 1) fun y => (ma s (fw (a.drop (i + 1)) (b.drop (i + 1))) c y : Nat)) = List.replicate i [] ++ byl n (a.drop i) (b.drop i) := by
        rw [drop_cons hia, drop_cons hib, es, ec, byl, Nat.zero_add, List.replicate_succ', List.append_assoc, List.set_append_right _ _ (by simp), List.length_replicate, Nat.sub_self]
        rfl
      have e3 : fw (a.drop i) (b.drop i) = val s c (fw (a.drop (i + 1)) (b.drop (i + 1))) := by
        rw [drop_cons hia, drop_cons hib, es, ec]; rfl
      rw [e2, ← e3]
      exact ih i (by omega) (by omega)

theorem byl_get {n : Nat} : ∀ (a b : List Int) (i : Nat) (ha : i < a.length) (hb : i < b.length), (byl n a b)[i]? = some (tab (n + 1) (fun y => (ma a[i].toNat (fw (a.drop (i + 1)) (b.drop (i + 1))) b[i].toNat y : Nat)))
  | [], b, i, h, _ => by simp at h
  | _ :: _, [], i, _, h => by simp at h
  | s :: a, c :: b, 0, _, _ => rfl
  | s :: a, c :: b, i + 1, ha, hb => by
    show (byl n a b)[i]? = _
    rw [byl_get a b i (by simpa using ha) (by simpa using hb)]
    rfl

theorem p23_eq {F n : Nat} {a b : List Int} (hn : n ≤ 1000) (hab : GoodM a b) : ∀ (k i m : Nat) (acc : List Int), i ≤ a.length → a.length < k + i → m ≤ n → acc.length ≤ i →
    f65_p23 F a b (byl n a b) k m i acc = some (acc ++ fillL (a.drop i) (b.drop i) m) := by
  have hl := hab.len
  have h5 := hab.five
  intro k
  induction k with
  | zero => intro i m acc _ h; omega
  | succ k ih =>
    intro i m acc h1 h2 h3 h4
    unfold f65_p23
    rw [Int.toNat_natCast]
    by_cases hi : i < a.length
    · have hib : i < b.length := by omega
      have hsa := hab.sz _ (List.getElem_mem hi)
      obtain ⟨s, es⟩ : ∃ s : Nat, a[i] = s := ⟨a[i].toNat, by omega⟩
      obtain ⟨c, ec⟩ : ∃ c : Nat, b[i] = c := ⟨b[i].toNat, by have := hab.st _ (List.getElem_mem hib); omega⟩
      have hfit := (ma_fst (s := s) (g := fw (a.drop (i + 1)) (b.drop (i + 1))) m c).1.fit
      have e := byl_get (n := n) a b i hi hib
      rw [es, ec, Int.toNat_natCast, Int.toNat_natCast] at e
      rw [if_pos (by simp; omega), req_pos (by omega), Int.toNat_natCast, Nat.zero_add, e, Option.bind_some, tab_at _ (by omega), Option.bind_some, req_pos (by simp; omega), at_get hi, Option.bind_some, es, w64_succ (by omega), drop_cons hi, drop_cons hib, es, ec, fillL, Int.toNat_natCast, Int.toNat_natCast]
      generalize ma s (fw (a.drop (i + 1)) (b.drop (i + 1))) c m = q at *
      have eq : (q : Int) * s = ((q * s : Nat) : Int) := (Int.natCast_mul ..).symm
      rw [eq, w64_in (n := ((q * s : Nat) : Int)) (by omega), show w64 ((m : Int) - ((q * s : Nat) : Int)) = ((m - q * s : Nat) : Int) by rw [w64_in (by omega)]; omega, ih (i + 1) (m - q * s) _ (by omega) (by omega) (by omega) (by simp; omega)]
      simp
    · rw [if_neg (by simp; omega), List.drop_eq_nil_of_le (by omega)]
      simp [fillL]

theorem p1_eq {F n : Nat} {a b : List Int} (hn : n ≤ 1000) : ∀ (k x : Nat) (h : Nat → Int), x ≤ n + 1 → n + 1 < k + x → (∀ y, y < x → h y = 1001) → f65_p1 F n a b k x (tab (n + 1) h) = some (tab (n + 1) fun _ => 1001) := by
  intro k
  induction k with
  | zero => intro x h _ h1; omega
  | succ k ih =>
    intro x h h1 h2 h3
    have en : w64 ((n : Int) + 1) = ((n + 1 : Nat) : Int) := w64_succ (by omega)
    unfold f65_p1
    rw [en, Int.toNat_natCast]
    by_cases hx : x < n + 1
    · rw [if_pos (by simp; omega), req_pos (by omega), Int.toNat_natCast, Nat.zero_add, req_pos (by rw [tab_len]; omega), tab_set, w64_succ (by omega)]
      refine ih (x + 1) _ (by omega) (by omega) fun y hy => ?_
      by_cases he : y = x
      · rw [if_pos he]
      · rw [if_neg he]; exact h3 y (by omega)
    · rw [if_neg (by simp; omega)]
      exact congrArg some (tab_congr fun y hy => h3 y (by omega))

/-- What fill answers. -/
def fillR (a b : List Int) (n : Nat) : List Int × Int := if fw a b n = 1001 then ([], 12) else (fillL a b n, 0)
theorem f65_eq {F n : Nat} (hF : 1100 ≤ F) (hn : n ≤ 1000) {a b : List Int} (hab : GoodM a b) : f65 F a b n = some (fillR a b n) := by
  have hl := hab.len
  have h5 := hab.five
  have en : w64 ((n : Int) + 1) = ((n + 1 : Nat) : Int) := w64_succ (by omega)
  have e1 := p1_eq (F := F) (a := a) (b := b) hn F 0 (fun _ => 0) (by omega) (by omega) (fun y h => by omega)
  have e2 := p5_eq hF hn hab F a.length (Nat.le_refl _) (by omega)
  have ed1 : a.drop a.length = [] := List.drop_eq_nil_of_le (Nat.le_refl _)
  have ed2 : b.drop a.length = [] := List.drop_eq_nil_of_le (by omega)
  rw [ed1, ed2] at e2
  have e3 : (tab (n + 1) fun _ => 1001).set 0 0 = tab (n + 1) (fw [] []) := by
    rw [tab_set]; rfl
  have e4 : List.replicate a.length ([] : List Int) ++ byl n [] [] = List.replicate a.length [] := by
    show _ ++ [] = _
    rw [List.append_nil]
  rw [e4] at e2
  have e5 := p23_eq (F := F) hn hab F 0 n [] (by omega) (by omega) (Nat.le_refl _) (by simp)
  rw [List.drop_zero, List.drop_zero, List.nil_append] at e5
  unfold f65
  rw [en, req_pos (by omega), Int.toNat_natCast, tab_zero, show f65_p1 F n a b F 0 (tab (n + 1) fun _ => 0) = _ from e1, Option.bind_some, req_pos (by omega), req_pos (by rw [tab_len]; omega), req_pos (by omega), e3, req_pos (by rw [tab_len]; omega), take_tab, Int.toNat_natCast, show w64 ((a.length : Int) - 1) = (a.length : Int) - 1 from w64_in (by omega), e2, Option.bind_some]
  dsimp only
  rw [tab_at _ (by omega), Option.bind_some]
  unfold fillR
  by_cases h : fw a b n = 1001
  · rw [if_pos (by simpa using h), if_pos h]
  · rw [if_neg (by simpa using h), if_neg h, show f65_p23 F a b (byl n a b) F n 0 [] = _ from e5, Option.bind_some, take0]

theorem f51_eq {F : Nat} (hF : 1100 ≤ F) {a b : List Int} {n : Int} (hb : b.length ≤ 40) : f51 F a b n = some (if od a b n = 0 then fillR a b n.toNat else ([], od a b n)) := by
  unfold f51
  rw [f73_eq (by omega) hb, Option.bind_some]
  by_cases h : od a b n = 0
  · obtain ⟨h1, h2, h3⟩ := od_zero h
    obtain ⟨m, rfl⟩ : ∃ m : Nat, n = m := ⟨n.toNat, by omega⟩
    rw [if_pos h]
    simp only [if_pos h1, h, bne_self_eq_false, Bool.false_eq_true, if_false]
    rw [f65_eq hF (by omega) (Good.of h1).m, Int.toNat_natCast]
    rfl
  · rw [if_neg h]
    by_cases hs : stk a b = 0 <;> simp [hs, h]

/-- A filling of n. -/
def IsF : List Int → List Int → List Int → Nat → Prop
  | s :: a, c :: b, x :: l, n => 0 ≤ x ∧ x ≤ c ∧ x.toNat * s.toNat ≤ n ∧ IsF a b l (n - x.toNat * s.toNat)
  | [], [], [], n => n = 0
  | _, _, _, _ => False
def pk : List Int → Int
  | [] => 0
  | x :: l => x + pk l

theorem opt1 : ∀ (a b l : List Int) (n : Nat), IsF a b l n → fw a b n ≤ pk l
  | s :: a, c :: b, x :: l, n, h => by
    obtain ⟨h1, h2, h3, h4⟩ := h
    have ih := opt1 a b l _ h4
    obtain ⟨k, e⟩ := ma_fst (s := s.toNat) (g := fw a b) n c.toNat
    have := k.best x.toNat (by omega) h3
    show val _ _ _ n ≤ x + pk l
    unfold val
    split <;> omega
  | [], [], [], n, h => by
    have : n = 0 := h
    subst this
    decide
  | [], [], _ :: _, _, h => h.elim
  | [], _ :: _, _, _, h => h.elim
  | _ :: _, [], _, _, h => h.elim
  | _ :: _, _ :: _, [], _, h => h.elim

theorem opt2 : ∀ (a b : List Int) (n : Nat), a.length = b.length → (∀ x ∈ b, 0 ≤ x) → fw a b n < 1001 → IsF a b (fillL a b n) n ∧ pk (fillL a b n) = fw a b n
  | s :: a, c :: b, n, hl, hb, h => by
    have h : val s.toNat c.toNat (fw a b) n < 1001 := h
    have hc := hb c (by simp)
    obtain ⟨k, e⟩ := ma_fst (s := s.toNat) (g := fw a b) n c.toNat
    have hv : val s.toNat c.toNat (fw a b) n = mv s.toNat (fw a b) c.toNat n := by
      unfold val at h ⊢
      split at h
      · rename_i h2; rw [if_pos h2]
      · omega
    have hle := k.le
    obtain ⟨i1, i2⟩ := opt2 a b (n - ma s.toNat (fw a b) c.toNat n * s.toNat) (by simpa using hl) (fun x hx => hb x (by simp [hx])) (by omega)
    show (0 ≤ ((ma s.toNat (fw a b) c.toNat n : Nat) : Int) ∧ _ ∧ _ ∧ _) ∧ _ + pk _ = val _ _ _ n
    rw [Int.toNat_natCast, i2, hv, e]
    exact ⟨⟨by omega, by omega, k.fit, i1⟩, by omega⟩
  | [], [], n, _, _, h => by
    have h : (if n = 0 then (0 : Int) else 1001) < 1001 := h
    by_cases h0 : n = 0
    · subst h0; exact ⟨rfl, rfl⟩
    · rw [if_neg h0] at h; omega
  | [], _ :: _, _, hl, _, _ => by simp at hl
  | _ :: _, [], _, hl, _, _ => by simp at hl

theorem pk_le : ∀ (a b l : List Int) (n : Nat), (∀ x ∈ a, 1 ≤ x) → IsF a b l n → pk l ≤ n
  | s :: a, c :: b, x :: l, n, ha, h => by
    obtain ⟨h1, h2, h3, h4⟩ := h
    have ih := pk_le a b l _ (fun y hy => ha y (by simp [hy])) h4
    have hs := ha s (by simp)
    have : x.toNat * 1 ≤ x.toNat * s.toNat := Nat.mul_le_mul_left _ (by omega)
    show x + pk l ≤ n
    omega
  | [], [], [], n, _, h => by
    show (0 : Int) ≤ n
    omega
  | [], [], _ :: _, _, _, h => h.elim
  | [], _ :: _, _, _, _, h => h.elim
  | _ :: _, [], _, _, _, h => h.elim
  | _ :: _, _ :: _, [], _, _, h => h.elim

end Go.Gh.Pack
