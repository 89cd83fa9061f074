/- BunchTurned: the plain law. -/
import Derived.Test.YtegnegeoodkpcaaBunchB12
namespace Go.Gh.Bunch
set_option linter.unusedVariables false
set_option linter.unusedSimpArgs false

theorem f12_p6_eq {F : Nat} {a b : Int} {l o : List Int} {q z : Int} (hl : l.length ≤ 100) : ∀ (k i : Nat) (c : Int), i ≤ l.length → l.length < k + i → 0 ≤ c → c ≤ i → f12_p6 F a b l o q z k c i = some (c + cge (q + 1) (l.drop i)) := by
  intro k
  induction k with
  | zero => intro i c _ h; omega
  | succ k ih =>
    intro i c h1 h2 h3 h4
    unfold f12_p6
    by_cases hi : i < l.length
    · rw [if_pos (by simp; omega), at_of (List.getElem?_eq_getElem hi), Option.bind_some, f12_p9, show w64 ((i : Int) + 1) = ((i + 1 : Nat) : Int) by rw [w64_in (by omega)]; omega, drop_cons hi, cge]
      by_cases h : l[i] > q
      · rw [if_pos (by simpa using h), Option.bind_some, w64_in (n := c + 1) (by omega), ih (i + 1) _ (by omega) (by omega) (by omega) (by omega), if_pos (by omega)]
        congr 1; omega
      · rw [if_neg (by simpa using h), Option.bind_some, ih (i + 1) _ (by omega) (by omega) (by omega) (by omega), if_neg (by omega)]
        congr 1; omega
    · rw [if_neg (by simp; omega), List.drop_eq_nil_of_le (by omega)]
      simp [cge]

theorem f12_p2_eq {F : Nat} {a b : Int} {l : List Int} (hF : 200 ≤ F) (hl : l.length ≤ 100) (hc : chkL 30 l = 0) : ∀ (k i : Nat), i ≤ (dv l).length → (dv l).length < k + i → f12_p2 F a b l (dv l) k i = some .c1 := by
  have hd : (dv l).length ≤ 30 := by rw [dv_len]; have := nxt_nn (chkL_all _ _ hc) 0; omega
  intro k
  induction k with
  | zero => intro i _ h; omega
  | succ k ih =>
    intro i h1 h2
    unfold f12_p2
    by_cases hi : i < (dv l).length
    · have e := f12_p6_eq (F := F) (a := a) (b := b) (o := dv l) (q := (i : Int)) (z := (dv l)[i]) hl F 0 0 (by omega) (by omega) (by omega) (by omega)
      rw [List.drop_zero, Int.zero_add] at e
      have e2 := nxt_dv hc i
      rw [nxt_lt hi] at e2
      rw [if_pos (by simp; omega), at_of (List.getElem?_eq_getElem hi), Option.bind_some, show f12_p6 F a b l (dv l) i (dv l)[i] F 0 0 = _ from e, Option.bind_some, if_neg (by simp [e2]), show w64 ((i : Int) + 1) = ((i + 1 : Nat) : Int) by rw [w64_in (by omega)]; omega]
      exact ih (i + 1) (by omega) (by omega)
    · rw [if_neg (by simp; omega)]

/-- How many divisions have at most so many numbers. -/
def sh (m : Nat) (L : List (List Int)) : Int := L.foldr (fun l s => (if l.length ≤ m then 1 else 0) + s) 0
theorem sh_bd (m : Nat) : ∀ L : List (List Int), 0 ≤ sh m L ∧ sh m L ≤ L.length
  | [] => ⟨Int.le_refl 0, Int.le_refl 0⟩
  | l :: r => by
    have := sh_bd m r
    simp only [sh, List.foldr_cons, List.length_cons] at this ⊢
    split <;> omega
theorem f12_p14_eq {F : Nat} {a b : Int} {m : Nat} {L : List (List Int)} (hb : Int.tmod (w64 b) 20 = m) (hl : L.length ≤ 2000) : ∀ (k i : Nat) (c : Int), i ≤ L.length → L.length < k + i → 0 ≤ c → c ≤ i →
    f12_p14 F a b L k c i = some (c + sh m (L.drop i)) := by
  intro k
  induction k with
  | zero => intro i c _ h; omega
  | succ k ih =>
    intro i c h1 h2 h3 h4
    unfold f12_p14
    by_cases hi : i < L.length
    · rw [if_pos (by simp; omega), at_of (List.getElem?_eq_getElem hi), Option.bind_some, f12_p17, hb, show w64 ((i : Int) + 1) = ((i + 1 : Nat) : Int) by rw [w64_in (by omega)]; omega, drop_cons hi]
      have es : sh m (L[i] :: L.drop (i + 1)) = (if L[i].length ≤ m then 1 else 0) + sh m (L.drop (i + 1)) := rfl
      rw [es]
      by_cases h : L[i].length ≤ m
      · rw [if_pos (by simp; omega), Option.bind_some, w64_in (n := c + 1) (by omega), ih (i + 1) _ (by omega) (by omega) (by omega) (by omega), if_pos h]
        congr 1; omega
      · rw [if_neg (by simp; omega), Option.bind_some, ih (i + 1) _ (by omega) (by omega) (by omega) (by omega), if_neg h]
        congr 1; omega
    · rw [if_neg (by simp; omega), List.drop_eq_nil_of_le (by omega)]
      simp [sh]
theorem f12_p14_1_eq {F : Nat} {a b : Int} {L : List (List Int)} : ∀ (k : Nat) (c i : Int), f12_p14_1 F a b L k c i = f12_p14 F a b L k c i := by
  intro k
  induction k with
  | zero => intro _ _; rfl
  | succ k ih => intro c i; simp only [f12_p14_1, f12_p14, f12_p17_1, f12_p17, ih]

/-- As many have at most m numbers as have no number greater than m: looked at. -/
def shLook (n : Nat) : Bool := let L := (al 100 n n).map List.length; (List.range 20).all fun m => decide (L.foldr (fun (l : Nat) (s : Int) => (if l ≤ m then 1 else 0) + s) 0 = c n m)
theorem sh_look : ((List.range 19).all shLook) = true := by decide +kernel
theorem sh_map (m : Nat) : ∀ L : List (List Int), (L.map List.length).foldr (fun (l : Nat) (s : Int) => (if l ≤ m then 1 else 0) + s) 0 = sh m L
  | [] => rfl
  | l :: r => by simp only [List.map_cons, List.foldr_cons, sh_map m r]; rfl
theorem al_fuel : ∀ (k k' n m : Nat), n < k → n < k' → al k n m = al k' n m := by
  intro k
  induction k with
  | zero => intro k' n m h; omega
  | succ k ih =>
    intro k' n m h1 h2
    obtain ⟨k', rfl⟩ : ∃ q, k' = q + 1 := ⟨k' - 1, by omega⟩
    rw [al_succ, al_succ]
    split
    · rfl
    · have : ∀ i, i < min m n → alG k n i = alG k' n i := fun i hi => by
        unfold alG
        rw [ih k' (n - (i + 1)) (i + 1) (by omega) (by omega)]
      have key : ∀ p, p ≤ min m n → (List.range p).flatMap (alG k n) = (List.range p).flatMap (alG k' n) := by
        intro p
        induction p with
        | zero => intro _; rfl
        | succ p ihp => intro hp; rw [List.range_succ, List.flatMap_append, List.flatMap_append, ihp (by omega)]; simp [this p (by omega)]
      exact key _ (Nat.le_refl _)
theorem sh_eq {n m : Nat} (hn : n < 19) (hm : m < 20) : sh m (al 2000 n n) = c n m := by
  have h := sh_look
  simp only [List.all_eq_true, List.mem_range] at h
  have h2 := h n hn
  unfold shLook at h2
  simp only [List.all_eq_true, List.mem_range, decide_eq_true_eq] at h2
  rw [al_fuel 2000 100 n n (by omega) (by omega), ← sh_map]
  exact h2 m hm

theorem works2000 : f19 2000 = some true := by decide +kernel

theorem f12_plain (by_ : List Int) (n m : Int) (hb : ∀ x : Int, x ∈ by_ → 0 ≤ x ∧ x ≤ 255) (hn : 0 ≤ n ∧ n ≤ 255) (hm : 0 ≤ m ∧ m ≤ 255) : f12 2000 by_ n m = some true := by
  obtain ⟨l, l1, l2, _⟩ := made_eq (q := 30) hb (by omega)
  have hl := len30 l2
  obtain ⟨hc, hs⟩ := chk_zero l2
  obtain ⟨N, hN, hN2⟩ := u8_mod hn 19 (by omega)
  obtain ⟨M, hM, hM2⟩ := u8_mod hm 20 (by omega)
  have hN' : Int.tmod (w64 n) 19 = (N : Int) := hN
  have hM' : Int.tmod (w64 m) 20 = (M : Int) := hM
  have hdc := dv_chk0 l2
  have hdl := len30 hdc
  have hdv : dv (dv l) = l := dv_dv hc hl.1
  have e1 : f48 2000 (N : Int) = some (al 2000 N N) := f48_eq (by omega)
  have hal := al_small (k := 2000) (n := N) (m := N) (by omega) (by omega) (by omega)
  have e2 := f12_p14_eq (F := 2000) (a := n) (b := m) (m := M) (L := al 2000 N N) hM' (by omega) 2000 0 0 (by omega) (by omega) (by omega) (by omega)
  rw [List.drop_zero, Int.zero_add, sh_eq hN2 hM2] at e2
  have e2 : f12_p14 2000 n m (al 2000 N N) 2000 0 0 = some (c N M) := e2
  have e2' : f12_p14_1 2000 n m (al 2000 N N) 2000 0 0 = some (c N M) := by rw [f12_p14_1_eq]; exact e2
  have e3 : f17 2000 (N : Int) (M : Int) = some (c N M, 0) := by rw [f17_eq (by omega), cc_nat (by omega) (by omega)]
  have e4 : f12_p2 2000 n m l (dv l) 2000 0 = some .c1 := f12_p2_eq (F := 2000) (by omega) (by omega) hc 2000 0 (by omega) (by omega)
  have e5 : f31 2000 l l = some true := by rw [f31_eq (by omega) (by omega)]; simp
  have e6 : f25 2000 (dv l) = some (l, 0) := by rw [f25_eq (by omega) (by omega) hdc, hdv]
  unfold f12
  simp only [l1, Option.bind_some, f25_eq (F := 2000) (by omega) (by omega : l.length ≤ 100) l2, f54_eq (F := 2000) (by omega) l2, f50_eq (F := 2000) (by omega) hdc (sm_dv hc), e4, e5, e6, hN', hM', e1, e2, e2', e3, works2000, bne_self_eq_false, beq_self_eq_true, Bool.false_eq_true, if_true, if_false]
  by_cases h0 : (l.length : Int) > 0
  · have hl0 : 0 < l.length := by omega
    have hx0 := nxt_pos (chkL_all _ _ hc) hl0
    have hd0 : 0 < (dv l).length := by rw [dv_len]; omega
    have a1 : at? l 0 = some (nxt l 0) := by rw [nxt_lt hl0]; exact at_of (List.getElem?_eq_getElem hl0)
    have a2 : at? (dv l) 0 = some (nxt (dv l) 0) := by rw [nxt_lt hd0]; exact at_of (List.getElem?_eq_getElem hd0)
    have a3 : ((dv l).length : Int) = nxt l 0 := by rw [dv_len]; omega
    have a4 : nxt (dv l) 0 = l.length := by
      have h1 := dv_len (dv l)
      rw [hdv] at h1
      have := nxt_nn (chkL_all _ _ (chk_zero hdc).1) 0
      omega
    simp only [h0, decide_true, if_true, a1, a2, a3, a4, Option.bind_some, bne_self_eq_false, Bool.false_eq_true, if_false]
  · simp only [h0, decide_false, Bool.false_eq_true, if_false]

end Go.Gh.Bunch
